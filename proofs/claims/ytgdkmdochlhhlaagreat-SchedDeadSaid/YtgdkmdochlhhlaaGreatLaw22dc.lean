/- Parts of the proof. -/
import Derived.Test.YtgdkmdochlhhlaaGreatGen22dA
import Derived.Test.YtgdkmdochlhhlaaGreatEngCompact
import Derived.IntWalk
import Derived.Laws.Rows
import Derived.ChangeSame
import Derived.JoinedOf
import Derived.JoinedAt
import Derived.JoinedStill
import Derived.RowKit
import Derived.ProofKit
import GoSem.Claim
import GoSem.ClaimJoined
import GoSem.ClaimMapViews
import Derived.JoinedTies
import Derived.KernelRfl
set_option linter.unusedSimpArgs false
set_option linter.unusedVariables false
set_option linter.defProp false
namespace Go.Proofs.YtgdkmdochlhhlaaGreat
set_option linter.unusedVariables false
open Go Go.bL Go.Sym
noncomputable section
variable(A:Go.bL.Call)(N:Nat)
def XD:=(G97 N).on 271 ⟨[.c (.sl bf .bD)],[tmf [.I]],0,[(0,15,51,.bool)],[],[],[]⟩
def LE:Nat->Int×List Instr×Int×Int->Option (Int⊕Unit)|0,_=>none|k+1,(b,d,e,c)=>cond (c<e) ((idx d c).bind λa=>(L3 N (a.1,a.2.1,a.2.2.1,a.2.2.2)).bind λf=>cond (f !=0) (some (Sum.inl 8)) ((cond (a.1==22) (cond (a.2.1>=b) (some true) (cond (a.1==23) (some (decide (a.2.2.1>=b))) (some false))) (cond (a.1==23) (some (decide (a.2.2.1>=b))) (some false))).bind λg=>cond g (some (Sum.inl 8)) (LE k (b,d,e,(av (c+1)))))) (some (Sum.inr ()))
def au3:=(XD N).l N 7 (tmn [(3,.I),(23,.c (.sl bf .bD)),(24,.I),(25,.I)]) [tmr [(2,.I)],tmx]
theorem ar8:lpT (au3 N) (LE N):=lpI
def OM:List Instr->Option Int|a=>cond ((a.length:Int)==0) (some 8) (cond ((a.length:Int)>200) (some 8) ((idx a (av ((a.length:Int)-1))).bind λb=>cond (!(b.1==34&&(b.2.1==(-1)&&(b.2.2.1==0&&(b.2.2.2==0&&true))))) (some 8) ((LE N N ((a.length:Int),a,(a.length:Int),0)).bind λc=>match c with|.inl d=>d|.inr e=>some 0)))
def anW:=(au3 N).p (OM N) (by delta OM;rw[ar8 N N];kernel_rfl)
def ON(N:Nat):List Instr×Int->Option tmI|(c,b)=>(idx c b).bind λa=>(cond (a.1==34) (some true) ((cond (a.1==28) (some true) (some (a.1==30))).bind λd=>some d)).bind λe=>cond e (some []) (cond (a.1==22) (some [a.2.1]) (cond (a.1==23) (aK (decide ([(av (b+1)),a.2.2.1].length<4611686018427387904)) (aK (decide ((j4 [(av (b+1)),a.2.2.1]).length<4611686018427387904)) (some (j5 (j4 [(av (b+1)),a.2.2.1]))))) (some [(av (b+1))])))
def ahr:=((anW N).on 347 ⟨[.c (.sl bf .bD),.I],[tmf [.D .I]],0,[(0,7,13,.bool),(0,5,13,.bool)],[],[(0,21,.I),(0,28,.I),(0,35,.I)],[]⟩).p (ON N)
def XE:=(ahr N).on 197 ⟨[.c (.sl bf .bD)],[tmf [.D .bool],tmf [.I]],0,[],[],[(0,13,.bool),(1016000,10,.I),(1016000,39,.I)],[]⟩
def mO(N:Nat):Nat->List Instr×Int×tmI×Int×Int×List Bool×tmI->Option (List Instr×List Bool×tmI)|0,_=>none|k+1,(e,h,f,g,c,a,d)=>cond (c<g) ((idx f c).bind λb=>aK (gB b a.length) ((a[b.toNat]?).bind λi=>aK (gB b a.length) ((a[b.toNat]?).bind λj=>cond (!i) (aK (room (d.length+1) 8) (mO N k (e,h,f,g,(av (c+1)),(a.set b.toNat true),(d++[b])))) (mO N k (e,h,f,g,(av (c+1)),(a.set b.toNat true),d))))) (e,a,d)
def XF:=(XE N).L N 1016000 11 272 11 (tm [(0,.c (.sl bf .bD)),(1,.fK 273 [.P 0 5 0]),(4,.R 1 10 1 .I),(5,.I),(27,.D .I),(28,.I),(29,.I)] [[(5,.P 0 5 0)]] [(0,5,.box 0 [.ref 0 13 2 .bool]),(0,13,.row 2 .bool),(1,10,.row 1 .I)] 2 [] 3) [(.exit 2,tm [(0,.c (.sl bf .bD)),(1,.fK 273 [.P 0 5 0]),(4,.R 1 10 1 .I)] [[(5,.P 0 5 0)]] [(0,5,.box 0 [.ref 0 13 2 .bool]),(0,13,.row 2 .bool),(1,10,.row 1 .I)] 2 [] 3)]
theorem ar9:lpT (XF N) (mO N):=lpI
def mP:Nat->List Instr×List Bool×tmI->Option (List Bool)|0,_=>none|k+1,(c,d,a)=>cond ((a.length:Int)>0) (aK (gB (av ((a.length:Int)-1)) a.length) ((a[(Int.toNat (av ((a.length:Int)-1)))]?).bind λe=>aK (decide (0<=(av ((a.length:Int)-1)))) (aK (decide ((Int.toNat (av ((a.length:Int)-1)))<=a.length)) ((ON N (c,e)).bind λf=>(mO N N (c,e,f,(f.length:Int),0,d,(a.take (Int.toNat (av ((a.length:Int)-1)))))).bind λb=>mP k (b.1,b.2.1,b.2.2))))) d
def au4:=(XF N).L N 1016000 3 272 3 (tm [(0,.c (.sl bf .bD)),(1,.fK 273 [.P 0 5 0]),(4,.R 1 10 1 .I)] [[(5,.P 0 5 0)]] [(0,5,.box 0 [.ref 0 13 2 .bool]),(0,13,.row 2 .bool),(1,10,.row 1 .I)] 2 [] 3) [(.exit 0,tm [] [[(5,.P 0 5 0)]] [(0,5,.box 0 [.ref 0 13 1 .bool]),(0,13,.row 1 .bool)] 2 [] 2)]
theorem as0:lpT (au4 N) (mP N):=lpJ λk=>funext λ⟨a,b,c⟩=>by rw[mP,ar9 N N];kernel_rfl
def XG:List Instr->Option (List Bool×Int)|a=>(OM N a).bind λc=>cond (c !=0) (some ([],c)) (aK (decide (0<=(a.length:Int))) (aK (decide (0<=(a.length:Int))) (aK (decide ((Int.toNat (a.length:Int))<=(Int.toNat (a.length:Int)))&&room (Int.toNat (a.length:Int)) 1) (aK (gB 0 (List.replicate (Int.toNat (a.length:Int)) false).length) (((List.replicate (Int.toNat (a.length:Int)) false)[(Int.toNat 0)]?).bind λd=>aK (gB 0 (List.replicate (Int.toNat (a.length:Int)) false).length) (((List.replicate (Int.toNat (a.length:Int)) false)[(Int.toNat 0)]?).bind λe=>(mP N N (a,((List.replicate (Int.toNat (a.length:Int)) false).set (Int.toNat 0) true),[0])).bind λb=>aK (gB (av ((b.length:Int)-1)) b.length) ((b[(Int.toNat (av ((b.length:Int)-1)))]?).bind λf=>some ((b.set (Int.toNat (av ((b.length:Int)-1))) true),0))))))))
def an0:=(au4 N).p (XG N) (by delta XG;rw[as0 N N];kernel_rfl)
def OO:iO->Option (tmI×tmI×Int)|(c,d,e,f)=>(L3 N (c,d,e,f)).bind λg=>cond (g !=0) (some (([]:tmI),[],g)) ((Jh N c).bind λb=>(LZ N (c,d,e,f)).bind λa=>(cond b.2.2.1 (some (decide (a.1>=0))) (some false)).bind λh=>cond h (aK (room (0+1) 8) ((cond b.2.2.2.1 (some (decide (a.1>=0))) (some false)).bind λi=>cond i (aK (room 1 8) ((cond b.2.2.2.2.2.2.1 (some (decide (a.2.1>=0))) (some false)).bind λj=>cond j (aK (room (1+1) 8) ((cond b.2.2.2.2.2.2.2.1 (some (decide (a.2.1>=0))) (some false)).bind λl=>cond l (aK (room (1+1) 8) ((cond b.2.2.2.2.2.2.2.2.2.2.1 (some (decide (a.2.2>=0))) (some false)).bind λm=>cond m (aK (room (2+1) 8) ((cond b.2.2.2.2.2.2.2.2.2.2.2.1 (some (decide (a.2.2>=0))) (some false)).bind λn=>cond n (aK (room (2+1) 8) (some ((((([]:tmI)++[a.1])++[a.2.1])++[a.2.2]),(([a.1]++[a.2.1])++[a.2.2]),0))) (some ((((([]:tmI)++[a.1])++[a.2.1])++[a.2.2]),([a.1]++[a.2.1]),0)))) ((cond b.2.2.2.2.2.2.2.2.2.2.2.1 (some (decide (a.2.2>=0))) (some false)).bind λo=>cond o (aK (room (2+1) 8) (some (((([]:tmI)++[a.1])++[a.2.1]),(([a.1]++[a.2.1])++[a.2.2]),0))) (some (((([]:tmI)++[a.1])++[a.2.1]),([a.1]++[a.2.1]),0))))) ((cond b.2.2.2.2.2.2.2.2.2.2.1 (some (decide (a.2.2>=0))) (some false)).bind λp=>cond p (aK (room (2+1) 8) ((cond b.2.2.2.2.2.2.2.2.2.2.2.1 (some (decide (a.2.2>=0))) (some false)).bind λq=>cond q (aK (room (1+1) 8) (some ((((([]:tmI)++[a.1])++[a.2.1])++[a.2.2]),([a.1]++[a.2.2]),0))) (some ((((([]:tmI)++[a.1])++[a.2.1])++[a.2.2]),[a.1],0)))) ((cond b.2.2.2.2.2.2.2.2.2.2.2.1 (some (decide (a.2.2>=0))) (some false)).bind λr=>cond r (aK (room (1+1) 8) (some (((([]:tmI)++[a.1])++[a.2.1]),([a.1]++[a.2.2]),0))) (some (((([]:tmI)++[a.1])++[a.2.1]),[a.1],0)))))) ((cond b.2.2.2.2.2.2.2.1 (some (decide (a.2.1>=0))) (some false)).bind λs=>cond s (aK (room (1+1) 8) ((cond b.2.2.2.2.2.2.2.2.2.2.1 (some (decide (a.2.2>=0))) (some false)).bind λt=>cond t (aK (room (1+1) 8) ((cond b.2.2.2.2.2.2.2.2.2.2.2.1 (some (decide (a.2.2>=0))) (some false)).bind λu=>cond u (aK (room (2+1) 8) (some (((([]:tmI)++[a.1])++[a.2.2]),(([a.1]++[a.2.1])++[a.2.2]),0))) (some (((([]:tmI)++[a.1])++[a.2.2]),([a.1]++[a.2.1]),0)))) ((cond b.2.2.2.2.2.2.2.2.2.2.2.1 (some (decide (a.2.2>=0))) (some false)).bind λv=>cond v (aK (room (2+1) 8) (some ((([]:tmI)++[a.1]),(([a.1]++[a.2.1])++[a.2.2]),0))) (some ((([]:tmI)++[a.1]),([a.1]++[a.2.1]),0))))) ((cond b.2.2.2.2.2.2.2.2.2.2.1 (some (decide (a.2.2>=0))) (some false)).bind λw=>cond w (aK (room (1+1) 8) ((cond b.2.2.2.2.2.2.2.2.2.2.2.1 (some (decide (a.2.2>=0))) (some false)).bind λx=>cond x (aK (room (1+1) 8) (some (((([]:tmI)++[a.1])++[a.2.2]),([a.1]++[a.2.2]),0))) (some (((([]:tmI)++[a.1])++[a.2.2]),[a.1],0)))) ((cond b.2.2.2.2.2.2.2.2.2.2.2.1 (some (decide (a.2.2>=0))) (some false)).bind λy=>cond y (aK (room (1+1) 8) (some ((([]:tmI)++[a.1]),([a.1]++[a.2.2]),0))) (some ((([]:tmI)++[a.1]),[a.1],0))))))) ((cond b.2.2.2.2.2.2.1 (some (decide (a.2.1>=0))) (some false)).bind λz=>cond z (aK (room (1+1) 8) ((cond b.2.2.2.2.2.2.2.1 (some (decide (a.2.1>=0))) (some false)).bind λA=>cond A (aK (room 1 8) ((cond b.2.2.2.2.2.2.2.2.2.2.1 (some (decide (a.2.2>=0))) (some false)).bind λB=>cond B (aK (room (2+1) 8) ((cond b.2.2.2.2.2.2.2.2.2.2.2.1 (some (decide (a.2.2>=0))) (some false)).bind λC=>cond C (aK (room (1+1) 8) (some ((((([]:tmI)++[a.1])++[a.2.1])++[a.2.2]),([a.2.1]++[a.2.2]),0))) (some ((((([]:tmI)++[a.1])++[a.2.1])++[a.2.2]),[a.2.1],0)))) ((cond b.2.2.2.2.2.2.2.2.2.2.2.1 (some (decide (a.2.2>=0))) (some false)).bind λD=>cond D (aK (room (1+1) 8) (some (((([]:tmI)++[a.1])++[a.2.1]),([a.2.1]++[a.2.2]),0))) (some (((([]:tmI)++[a.1])++[a.2.1]),[a.2.1],0))))) ((cond b.2.2.2.2.2.2.2.2.2.2.1 (some (decide (a.2.2>=0))) (some false)).bind λE=>cond E (aK (room (2+1) 8) ((cond b.2.2.2.2.2.2.2.2.2.2.2.1 (some (decide (a.2.2>=0))) (some false)).bind λG=>cond G (aK (room 1 8) (some ((((([]:tmI)++[a.1])++[a.2.1])++[a.2.2]),[a.2.2],0))) (some ((((([]:tmI)++[a.1])++[a.2.1])++[a.2.2]),[],0)))) ((cond b.2.2.2.2.2.2.2.2.2.2.2.1 (some (decide (a.2.2>=0))) (some false)).bind λH=>cond H (aK (room 1 8) (some (((([]:tmI)++[a.1])++[a.2.1]),[a.2.2],0))) (some (((([]:tmI)++[a.1])++[a.2.1]),[],0)))))) ((cond b.2.2.2.2.2.2.2.1 (some (decide (a.2.1>=0))) (some false)).bind λI=>cond I (aK (room 1 8) ((cond b.2.2.2.2.2.2.2.2.2.2.1 (some (decide (a.2.2>=0))) (some false)).bind λJ=>cond J (aK (room (1+1) 8) ((cond b.2.2.2.2.2.2.2.2.2.2.2.1 (some (decide (a.2.2>=0))) (some false)).bind λK=>cond K (aK (room (1+1) 8) (some (((([]:tmI)++[a.1])++[a.2.2]),([a.2.1]++[a.2.2]),0))) (some (((([]:tmI)++[a.1])++[a.2.2]),[a.2.1],0)))) ((cond b.2.2.2.2.2.2.2.2.2.2.2.1 (some (decide (a.2.2>=0))) (some false)).bind λL=>cond L (aK (room (1+1) 8) (some ((([]:tmI)++[a.1]),([a.2.1]++[a.2.2]),0))) (some ((([]:tmI)++[a.1]),[a.2.1],0))))) ((cond b.2.2.2.2.2.2.2.2.2.2.1 (some (decide (a.2.2>=0))) (some false)).bind λM=>cond M (aK (room (1+1) 8) ((cond b.2.2.2.2.2.2.2.2.2.2.2.1 (some (decide (a.2.2>=0))) (some false)).bind λO=>cond O (aK (room 1 8) (some (((([]:tmI)++[a.1])++[a.2.2]),[a.2.2],0))) (some (((([]:tmI)++[a.1])++[a.2.2]),[],0)))) ((cond b.2.2.2.2.2.2.2.2.2.2.2.1 (some (decide (a.2.2>=0))) (some false)).bind λP=>cond P (aK (room 1 8) (some ((([]:tmI)++[a.1]),[a.2.2],0))) (some ((([]:tmI)++[a.1]),[],0)))))))) ((cond b.2.2.2.1 (some (decide (a.1>=0))) (some false)).bind λQ=>cond Q (aK (room 1 8) ((cond b.2.2.2.2.2.2.1 (some (decide (a.2.1>=0))) (some false)).bind λR=>cond R (aK (room (0+1) 8) ((cond b.2.2.2.2.2.2.2.1 (some (decide (a.2.1>=0))) (some false)).bind λS=>cond S (aK (room (1+1) 8) ((cond b.2.2.2.2.2.2.2.2.2.2.1 (some (decide (a.2.2>=0))) (some false)).bind λT=>cond T (aK (room (1+1) 8) ((cond b.2.2.2.2.2.2.2.2.2.2.2.1 (some (decide (a.2.2>=0))) (some false)).bind λU=>cond U (aK (room (2+1) 8) (some (((([]:tmI)++[a.2.1])++[a.2.2]),(([a.1]++[a.2.1])++[a.2.2]),0))) (some (((([]:tmI)++[a.2.1])++[a.2.2]),([a.1]++[a.2.1]),0)))) ((cond b.2.2.2.2.2.2.2.2.2.2.2.1 (some (decide (a.2.2>=0))) (some false)).bind λV=>cond V (aK (room (2+1) 8) (some ((([]:tmI)++[a.2.1]),(([a.1]++[a.2.1])++[a.2.2]),0))) (some ((([]:tmI)++[a.2.1]),([a.1]++[a.2.1]),0))))) ((cond b.2.2.2.2.2.2.2.2.2.2.1 (some (decide (a.2.2>=0))) (some false)).bind λW=>cond W (aK (room (1+1) 8) ((cond b.2.2.2.2.2.2.2.2.2.2.2.1 (some (decide (a.2.2>=0))) (some false)).bind λX=>cond X (aK (room (1+1) 8) (some (((([]:tmI)++[a.2.1])++[a.2.2]),([a.1]++[a.2.2]),0))) (some (((([]:tmI)++[a.2.1])++[a.2.2]),[a.1],0)))) ((cond b.2.2.2.2.2.2.2.2.2.2.2.1 (some (decide (a.2.2>=0))) (some false)).bind λY=>cond Y (aK (room (1+1) 8) (some ((([]:tmI)++[a.2.1]),([a.1]++[a.2.2]),0))) (some ((([]:tmI)++[a.2.1]),[a.1],0)))))) ((cond b.2.2.2.2.2.2.2.1 (some (decide (a.2.1>=0))) (some false)).bind λZ=>cond Z (aK (room (1+1) 8) ((cond b.2.2.2.2.2.2.2.2.2.2.1 (some (decide (a.2.2>=0))) (some false)).bind λa0=>cond a0 (aK (room (0+1) 8) ((cond b.2.2.2.2.2.2.2.2.2.2.2.1 (some (decide (a.2.2>=0))) (some false)).bind λa1=>cond a1 (aK (room (2+1) 8) (some ((([]:tmI)++[a.2.2]),(([a.1]++[a.2.1])++[a.2.2]),0))) (some ((([]:tmI)++[a.2.2]),([a.1]++[a.2.1]),0)))) ((cond b.2.2.2.2.2.2.2.2.2.2.2.1 (some (decide (a.2.2>=0))) (some false)).bind λa2=>cond a2 (aK (room (2+1) 8) (some (([]:tmI),(([a.1]++[a.2.1])++[a.2.2]),0))) (some (([]:tmI),([a.1]++[a.2.1]),0))))) ((cond b.2.2.2.2.2.2.2.2.2.2.1 (some (decide (a.2.2>=0))) (some false)).bind λa3=>cond a3 (aK (room (0+1) 8) ((cond b.2.2.2.2.2.2.2.2.2.2.2.1 (some (decide (a.2.2>=0))) (some false)).bind λa4=>cond a4 (aK (room (1+1) 8) (some ((([]:tmI)++[a.2.2]),([a.1]++[a.2.2]),0))) (some ((([]:tmI)++[a.2.2]),[a.1],0)))) ((cond b.2.2.2.2.2.2.2.2.2.2.2.1 (some (decide (a.2.2>=0))) (some false)).bind λa5=>cond a5 (aK (room (1+1) 8) (some (([]:tmI),([a.1]++[a.2.2]),0))) (some (([]:tmI),[a.1],0))))))) ((cond b.2.2.2.2.2.2.1 (some (decide (a.2.1>=0))) (some false)).bind λa6=>cond a6 (aK (room (0+1) 8) ((cond b.2.2.2.2.2.2.2.1 (some (decide (a.2.1>=0))) (some false)).bind λa7=>cond a7 (aK (room 1 8) ((cond b.2.2.2.2.2.2.2.2.2.2.1 (some (decide (a.2.2>=0))) (some false)).bind λa8=>cond a8 (aK (room (1+1) 8) ((cond b.2.2.2.2.2.2.2.2.2.2.2.1 (some (decide (a.2.2>=0))) (some false)).bind λa9=>cond a9 (aK (room (1+1) 8) (some (((([]:tmI)++[a.2.1])++[a.2.2]),([a.2.1]++[a.2.2]),0))) (some (((([]:tmI)++[a.2.1])++[a.2.2]),[a.2.1],0)))) ((cond b.2.2.2.2.2.2.2.2.2.2.2.1 (some (decide (a.2.2>=0))) (some false)).bind λb0=>cond b0 (aK (room (1+1) 8) (some ((([]:tmI)++[a.2.1]),([a.2.1]++[a.2.2]),0))) (some ((([]:tmI)++[a.2.1]),[a.2.1],0))))) ((cond b.2.2.2.2.2.2.2.2.2.2.1 (some (decide (a.2.2>=0))) (some false)).bind λb1=>cond b1 (aK (room (1+1) 8) ((cond b.2.2.2.2.2.2.2.2.2.2.2.1 (some (decide (a.2.2>=0))) (some false)).bind λb2=>cond b2 (aK (room 1 8) (some (((([]:tmI)++[a.2.1])++[a.2.2]),[a.2.2],0))) (some (((([]:tmI)++[a.2.1])++[a.2.2]),[],0)))) ((cond b.2.2.2.2.2.2.2.2.2.2.2.1 (some (decide (a.2.2>=0))) (some false)).bind λb3=>cond b3 (aK (room 1 8) (some ((([]:tmI)++[a.2.1]),[a.2.2],0))) (some ((([]:tmI)++[a.2.1]),[],0)))))) ((cond b.2.2.2.2.2.2.2.1 (some (decide (a.2.1>=0))) (some false)).bind λb4=>cond b4 (aK (room 1 8) ((cond b.2.2.2.2.2.2.2.2.2.2.1 (some (decide (a.2.2>=0))) (some false)).bind λb5=>cond b5 (aK (room (0+1) 8) ((cond b.2.2.2.2.2.2.2.2.2.2.2.1 (some (decide (a.2.2>=0))) (some false)).bind λb6=>cond b6 (aK (room (1+1) 8) (some ((([]:tmI)++[a.2.2]),([a.2.1]++[a.2.2]),0))) (some ((([]:tmI)++[a.2.2]),[a.2.1],0)))) ((cond b.2.2.2.2.2.2.2.2.2.2.2.1 (some (decide (a.2.2>=0))) (some false)).bind λb7=>cond b7 (aK (room (1+1) 8) (some (([]:tmI),([a.2.1]++[a.2.2]),0))) (some (([]:tmI),[a.2.1],0))))) ((cond b.2.2.2.2.2.2.2.2.2.2.1 (some (decide (a.2.2>=0))) (some false)).bind λb8=>cond b8 (aK (room (0+1) 8) ((cond b.2.2.2.2.2.2.2.2.2.2.2.1 (some (decide (a.2.2>=0))) (some false)).bind λb9=>cond b9 (aK (room 1 8) (some ((([]:tmI)++[a.2.2]),[a.2.2],0))) (some ((([]:tmI)++[a.2.2]),[],0)))) ((cond b.2.2.2.2.2.2.2.2.2.2.2.1 (some (decide (a.2.2>=0))) (some false)).bind λc0=>cond c0 (aK (room 1 8) (some (([]:tmI),[a.2.2],0))) (some (([]:tmI),[],0))))))))
def an3:=((an0 N).on 202 ⟨[.agg (bg bf)],[tmf [.D .I],tmf [.D .I],tmf [.I]],1,[(0,13,34,.bool),(0,16,46,.bool),(0,100013,34,.bool),(0,100016,46,.bool)],[(0,8),(0,100008)],[(0,2,.I),(0,37,.I),(0,49,.I)],[]⟩).p (OO N)
def OP(N:Nat):List Field×Int->Option Bool|(b,a)=>(cond (a>=0) (some (decide (a<b.length))) (some false)).bind λc=>c
def an6:=((an3 N).on 274 ⟨[.c (.sl dh .bD),.I],[tmf [.bool]],0,[(0,1,4,.bool)],[],[],[]⟩).p (OP N)
def SG(N:Nat):iO->Option Int|(a,b,c,e)=>cond (a==25) c ((cond (a==26) (some true) (some (a==27))).bind λd=>cond d b (some (-1)))
def an9:=((an6 N).on 275 ⟨[.agg (bg bf)],[tmf [.I]],0,[(0,7,9,.bool)],[],[],[]⟩).p (SG N)
def XH(N:Nat):List (List UInt8)×Int->Option Bool|(b,a)=>(cond (a>=0) (some (decide (a<b.length))) (some false)).bind λc=>c
def aht:=((an9 N).on 276 ⟨[.c (.sl .str .bD),.I],[tmf [.bool]],0,[(0,1,4,.bool)],[],[],[]⟩).p (XH N)
def XI:=(aht N).on 198 ⟨[.agg (cP bM),.agg (bg bf)],[tmf [.I]],0,[(0,17,56,.bool)],[],[],[]⟩
def LT:Nat->Int×Int×eg (Oy tmI)->Option (Int⊕(eg iO))|0,_=>none|k+1,(d,a,e,f,g,h,i,j,b,l,m,n,o,p,q,r,c)=>cond (a<d) (aK (gB a c.length) ((c[a.toNat]?).bind λs=>(OP N (b,s)).bind λt=>cond (!t) (some (Sum.inl 16)) (LT k (d,(av (a+1)),e,f,g,h,i,j,b,l,m,n,o,p,q,r,c)))) (some (Sum.inr (e,f,g,h,i,j,b,l,m,n,o,p,q,r)))
def au5:=(XI N).l N 7 (tm [(2,.P 0 2 0),(3,.P 0 3 1),(22,.R 0 13 2 .I),(23,.I),(24,.I)] [] [(0,2,.box 0 (cP bM)),(0,3,.box 1 (bg bf)),(0,13,.row 2 .I)] 1 [] 3) [tmr [(4,.I)],(.exit 0,tm [(2,.P 0 2 0),(3,.P 0 3 1)] [] [(0,2,.box 0 (cP bM)),(0,3,.box 1 (bg bf))] 1 [] 2)]
theorem as1:lpT (au5 N) (LT N):=lpI
def XJ:eg iO->Option Int|(g,h,i,j,l,m,n,o,p,q,c,d,e,f)=>(OO N (c,d,e,f)).bind λa=>cond (a.2.2!=0) a.2.2 (aK (room (a.1.length+a.2.1.length) 8) ((LT N N (((a.1++a.2.1).length:Int),0,g,h,i,j,l,m,n,o,p,q,c,d,e,f,(a.1++a.2.1))).bind λr=>match r with|.inl s=>s|.inr b=>(SG N (b.2.2.2.2.2.2.2.2.2.2.1,b.2.2.2.2.2.2.2.2.2.2.2.1,b.2.2.2.2.2.2.2.2.2.2.2.2.1,b.2.2.2.2.2.2.2.2.2.2.2.2.2)).bind λt=>(cond (t>=b.2.2.1.length) (some true) (cond (b.2.2.2.2.2.2.2.2.2.2.1==2) ((XH N (b.2.1,b.2.2.2.2.2.2.2.2.2.2.2.2.1)).bind λu=>some (!u)) (some false))).bind λv=>cond v (some 16) (some 0)))
def aod:=(au5 N).p (XJ N) (by delta XJ;rw[as1 N N];kernel_rfl)
def L5:eg Int->Option Int|(e,f,g,h,i,j,a,l,m,n,b)=>(OP N (a,b)).bind λc=>cond (!c) (some (-1)) ((idx a b).bind λd=>d.2)
def ahv:=((aod N).on 277 (sg [.agg (cP bM),.I] [tmf [.I]])).p (L5 N)
def XK:=(ahv N).on 374 (sg [.c (.sl .B .bD),.B] [tmf [.I]])
def M2(N:Nat):Nat->tmI×Int×Int×Int->Option (Int⊕Unit)|0,_=>none|k+1,(b,c,d,a)=>cond (a<d) ((idx b a).bind λe=>cond (c==e) (some (Sum.inl a)) (M2 N k (b,c,d,(av (a+1))))) (some (Sum.inr ()))
def au6:=(XK N).l N 3 (tmn [(0,.c (.sl .B .bD)),(1,.B),(7,.I),(8,.I)]) [tmr [(4,.I)],tmx]
theorem as3:lpT (au6 N) (M2 N):=lpI
def abR:tmI×Int->Option Int|(a,b)=>(M2 N N (a,b,(a.length:Int),0)).bind λc=>match c with|.inl d=>d|.inr e=>some (-1)
def aoh:=(au6 N).p (abR N) (by delta abR;rw[as3 N N];kernel_rfl)
def XL:tmI×Int->Option Bool|(a,b)=>(abR N (a,b)).bind λc=>some (decide (c>=0))
def aok:=((aoh N).on 348 (sg [.c (.sl .B .bD),.B] [tmf [.bool]])).p (XL N)
def mB:eg (Int×tmI)->Option Bool|(b,g,h,i,j,l,m,n,o,p,a,c)=>(cond (a>=0) ((idx b a).bind λd=>(XL N (c,d.1)).bind λe=>some e) (some false)).bind λf=>f
def aon:=((aok N).on 280 ⟨[.agg (cP bM),.I,.c (.sl .B .bD)],[tmf [.bool]],0,[(0,1,6,.bool)],[],[],[]⟩).p (mB N)
def SH:eg (Int×Int×Int)->Option Bool|(a,d,e,f,g,h,i,j,l,m,b,c,n)=>(mB N (a,d,e,f,g,h,i,j,l,m,b,[5])).bind λo=>cond o ((idx a b).bind λp=>(OP N (p.2.2.2,c)).bind λq=>cond q ((idx a b).bind λr=>(idx r.2.2.2 c).bind λs=>some (s.2==n)) false) false
def aor:=((aon N).on 282 (sg [.agg (cP bM),.I,.I,.I] [tmf [.bool]])).p (SH N)
def L6:eg (Int×Int×tmI)->Option Bool|(a,c,d,e,f,g,h,i,j,l,b,m,n)=>((mB N (a,c,d,e,f,g,h,i,j,l,b,n)).bind λo=>cond o ((idx a b).bind λp=>some (p.2.1==m)) (some false)).bind λq=>q
def aou:=((aor N).on 283 ⟨[.agg (cP bM),.I,.I,.c (.sl .B .bD)],[tmf [.bool]],0,[(0,1,8,.bool)],[],[],[]⟩).p (L6 N)
def XM:eg ic->Option Bool|(b,c,d,e,f,g,h,i,j,l,q,a,m,n,r,s,t)=>cond (m<0) (cond (a==0) true (cond (a==1) ((idx n 0).bind λo=>(mB N (b,c,d,e,f,g,h,i,j,l,o.2,[1,2,4])).bind λp=>p) false)) false
def ahx:=((aou N).on 284 (sg [.agg (cP bM),.agg (cP dQ)] [tmf [.bool]])).p (XM N)
def XN:=(ahx N).on 199 ⟨[.agg (cP bM),.agg (bg bf)],[tmf [.bool]],0,[(0,7,26,.bool),(0,15,39,.bool),(0,27,50,.bool),(0,25,50,.bool),(0,23,50,.bool),(0,69,4,.bool),(0,71,202,.bool),(0,79,220,.bool),(0,85,4,.bool)],[],[(0,31,.I),(0,59,.I),(0,70,.I),(0,144,.I),(0,157,.I),(0,170,.I),(0,177,.I),(0,229,.I)],[]⟩
def mQ:Nat->tmI×Int×Int×dS->Option (Int⊕Unit)|0,_=>none|k+1,(b,c,a,d,e,f,g,h,i,j,l,m,n)=>cond (a<c) ((idx b a).bind λo=>(mB N (d,e,f,g,h,i,j,l,m,n,o,[2])).bind λp=>cond (!p) (some (Sum.inl a)) (mQ k (b,c,(av (a+1)),d,e,f,g,h,i,j,l,m,n))) (some (Sum.inr ()))
def XO:=(XN N).L N 1032001006001007000 3 101 3 (tm [(0,.c (.sl .I .full)),(1,.fK 279 [.P 0 2 0]),(7,.I),(8,.I)] [[],[],[]] [(0,2,.box 0 (cP bM))] 4 [] 1) [(.ret,tm [(4,.I)] [[],[],[]] [] 4 [] 0),(.exit 0,tm [] [[],[],[]] [] 4 [] 0)]
theorem as4:lpT (XO N) (mQ N):=lpI
def mR:Nat->tmI×Int×Int×dS->Option (Int⊕Unit)|0,_=>none|k+1,(b,c,a,d,e,f,g,h,i,j,l,m,n)=>cond (a<c) ((idx b a).bind λo=>(mB N (d,e,f,g,h,i,j,l,m,n,o,[2])).bind λp=>cond (!p) (some (Sum.inl a)) (mR k (b,c,(av (a+1)),d,e,f,g,h,i,j,l,m,n))) (some (Sum.inr ()))
def XP:=(XO N).L N 1060001006001007000 3 101 3 (tm [(0,.c (.sl .I .full)),(1,.fK 279 [.P 0 2 0]),(7,.I),(8,.I)] [[],[],[]] [(0,2,.box 0 (cP bM))] 4 [] 1) [(.ret,tm [(4,.I)] [[],[],[]] [] 4 [] 0),(.exit 0,tm [] [[],[],[]] [] 4 [] 0)]
theorem as7:lpT (XP N) (mR N):=lpI
def mT:Nat->tmI×Int×Int×dS->Option (Int⊕Unit)|0,_=>none|k+1,(b,c,a,d,e,f,g,h,i,j,l,m,n)=>cond (a<c) ((idx b a).bind λo=>(mB N (d,e,f,g,h,i,j,l,m,n,o,[2])).bind λp=>cond (!p) (some (Sum.inl a)) (mT k (b,c,(av (a+1)),d,e,f,g,h,i,j,l,m,n))) (some (Sum.inr ()))
def XQ:=(XP N).L N 1071001006001007000 3 101 3 (tm [(0,.c (.sl .I .full)),(1,.fK 279 [.P 0 2 0]),(7,.I),(8,.I)] [[],[],[]] [(0,2,.box 0 (cP bM))] 4 [] 1) [(.ret,tm [(4,.I)] [[],[],[]] [] 4 [] 0),(.exit 0,tm [] [[],[],[]] [] 4 [] 0)]
theorem au2:lpT (XQ N) (mT N):=lpI
def mU:Nat->tmI×Int×Int×dS->Option (Int⊕Unit)|0,_=>none|k+1,(b,c,a,d,e,f,g,h,i,j,l,m,n)=>cond (a<c) ((idx b a).bind λo=>(mB N (d,e,f,g,h,i,j,l,m,n,o,[2])).bind λp=>cond (!p) (some (Sum.inl a)) (mU k (b,c,(av (a+1)),d,e,f,g,h,i,j,l,m,n))) (some (Sum.inr ()))
def XR:=(XQ N).L N 1145001006001007000 3 101 3 (tm [(0,.c (.sl .I .full)),(1,.fK 279 [.P 0 2 0]),(7,.I),(8,.I)] [[],[],[]] [(0,2,.box 0 (cP bM))] 4 [] 1) [(.ret,tm [(4,.I)] [[],[],[]] [] 4 [] 0),(.exit 0,tm [] [[],[],[]] [] 4 [] 0)]
theorem au8:lpT (XR N) (mU N):=lpI
def mV:Nat->tmI×Int×Int×dS->Option (Int⊕Unit)|0,_=>none|k+1,(b,c,a,d,e,f,g,h,i,j,l,m,n)=>cond (a<c) ((idx b a).bind λo=>(mB N (d,e,f,g,h,i,j,l,m,n,o,[2])).bind λp=>cond (!p) (some (Sum.inl a)) (mV k (b,c,(av (a+1)),d,e,f,g,h,i,j,l,m,n))) (some (Sum.inr ()))
def XS:=(XR N).L N 1158001006001007000 3 101 3 (tm [(0,.c (.sl .I .full)),(1,.fK 279 [.P 0 2 0]),(7,.I),(8,.I)] [[],[],[]] [(0,2,.box 0 (cP bM))] 4 [] 1) [(.ret,tm [(4,.I)] [[],[],[]] [] 4 [] 0),(.exit 0,tm [] [[],[],[]] [] 4 [] 0)]
theorem av1:lpT (XS N) (mV N):=lpI
def mW:Nat->tmI×Int×Int×dS->Option (Int⊕Unit)|0,_=>none|k+1,(b,c,a,d,e,f,g,h,i,j,l,m,n)=>cond (a<c) ((idx b a).bind λo=>(mB N (d,e,f,g,h,i,j,l,m,n,o,[2])).bind λp=>cond (!p) (some (Sum.inl a)) (mW k (b,c,(av (a+1)),d,e,f,g,h,i,j,l,m,n))) (some (Sum.inr ()))
def XT:=(XS N).L N 1171001006001007000 3 101 3 (tm [(0,.c (.sl .I .full)),(1,.fK 279 [.P 0 2 0]),(7,.I),(8,.I)] [[],[],[]] [(0,2,.box 0 (cP bM))] 4 [] 1) [(.ret,tm [(4,.I)] [[],[],[]] [] 4 [] 0),(.exit 0,tm [] [[],[],[]] [] 4 [] 0)]
theorem av2:lpT (XT N) (mW N):=lpI
def mX:Nat->tmI×Int×Int×dS->Option ((Int×dS)⊕dS)|0,_=>none|k+1,(m,n,a,b,c,d,e,f,g,h,i,j,l)=>cond (a<n) ((idx m a).bind λo=>(mB N (b,c,d,e,f,g,h,i,j,l,o,[2])).bind λp=>cond (!p) (some (Sum.inl (a,b,c,d,e,f,g,h,i,j,l))) (mX k (m,n,(av (a+1)),b,c,d,e,f,g,h,i,j,l))) (some (Sum.inr (b,c,d,e,f,g,h,i,j,l)))
def XU:=(XT N).L N 1178001006001007000 3 101 3 (tm [(0,.c (.sl .I .full)),(1,.fK 279 [.P 0 2 0]),(7,.I),(8,.I)] [[],[],[(2,.P 0 2 0)]] [(0,2,.box 0 (cP bM))] 4 [] 1) [(.ret,tm [(4,.I)] [[],[],[(2,.P 0 2 0)]] [(0,2,.box 0 (cP bM))] 4 [] 1),(.exit 0,tm [] [[],[],[(2,.P 0 2 0)]] [(0,2,.box 0 (cP bM))] 4 [] 1)]
theorem av3:lpT (XU N) (mX N):=lpI
def mY:Nat->tmI×Int×Int×dS->Option (Int⊕Unit)|0,_=>none|k+1,(b,c,a,d,e,f,g,h,i,j,l,m,n)=>cond (a<c) ((idx b a).bind λo=>(mB N (d,e,f,g,h,i,j,l,m,n,o,[2])).bind λp=>cond (!p) (some (Sum.inl a)) (mY k (b,c,(av (a+1)),d,e,f,g,h,i,j,l,m,n))) (some (Sum.inr ()))
def au7:=(XU N).L N 1230001006001007000 3 101 3 (tm [(0,.c (.sl .I .full)),(1,.fK 279 [.P 0 2 0]),(7,.I),(8,.I)] [[],[],[]] [(0,2,.box 0 (cP bM))] 4 [] 1) [(.ret,tm [(4,.I)] [[],[],[]] [] 4 [] 0),(.exit 0,tm [] [[],[],[]] [] 4 [] 0)]
theorem av6:lpT (au7 N) (mY N):=lpI
def XV:eg iO->Option Bool|(c,d,a,e,f,b,g,h,i,j,l,s,t,u)=>(L5 N (c,d,a,e,f,b,g,h,i,j,s)).bind λm=>(L5 N (c,d,a,e,f,b,g,h,i,j,t)).bind λn=>(L5 N (c,d,a,e,f,b,g,h,i,j,u)).bind λr=>(cond (l==1) (some true) (some (l==32))).bind λv=>cond v ((mQ N N ([m],1,0,c,d,a,e,f,b,g,h,i,j)).bind λw=>match w with|.inl x=>some (!(decide (x>=0)))|.inr b6=>some (!(decide ((-1:Int)>=0)))) (cond (l==2) ((mB N (c,d,a,e,f,b,g,h,i,j,m,[3])).bind λy=>y) ((cond (l==3) (some true) (some (l==23))).bind λz=>cond z ((mB N (c,d,a,e,f,b,g,h,i,j,m,[1])).bind λA=>A) (cond (l==5) (some (m==n)) ((cond (l==6) (some true) ((cond (l==7) (some true) ((cond (l==8) (some true) (some (l==9))).bind λB=>some B)).bind λC=>some C)).bind λD=>cond D ((mR N N ([m,n,r],3,0,c,d,a,e,f,b,g,h,i,j)).bind λE=>match E with|.inl G=>some (!(decide (G>=0)))|.inr b7=>some (!(decide ((-1:Int)>=0)))) (cond (l==10) ((mB N (c,d,a,e,f,b,g,h,i,j,m,[1])).bind λH=>cond H ((mT N N ([n,r],2,0,c,d,a,e,f,b,g,h,i,j)).bind λI=>match I with|.inl J=>some (!(decide (J>=0)))|.inr b8=>some (!(decide ((-1:Int)>=0)))) false) (cond (l==11) ((mB N (c,d,a,e,f,b,g,h,i,j,m,[1])).bind λK=>cond K (cond (n==r) ((mB N (c,d,a,e,f,b,g,h,i,j,n,[2,1,4])).bind λL=>L) false) false) (cond (l==12) ((mB N (c,d,a,e,f,b,g,h,i,j,m,[1])).bind λM=>cond M ((mB N (c,d,a,e,f,b,g,h,i,j,n,[1])).bind λO=>O) false) (cond (l==13) ((SH N (c,d,a,e,f,b,g,h,i,j,n,u,m)).bind λP=>P) (cond (l==14) ((SH N (c,d,a,e,f,b,g,h,i,j,m,t,r)).bind λQ=>Q) (cond (l==15) ((mB N (c,d,a,e,f,b,g,h,i,j,m,[4])).bind λR=>R) (cond (l==16) ((L6 N (c,d,a,e,f,b,g,h,i,j,n,m,[4])).bind λS=>S) (cond (l==17) ((L6 N (c,d,a,e,f,b,g,h,i,j,m,n,[4])).bind λT=>T) (cond (l==18) ((mB N (c,d,a,e,f,b,g,h,i,j,m,[7])).bind λU=>cond U ((mU N N ([n],1,0,c,d,a,e,f,b,g,h,i,j)).bind λV=>match V with|.inl W=>some (!(decide (W>=0)))|.inr b9=>some (!(decide ((-1:Int)>=0)))) false) (cond (l==19) ((L6 N (c,d,a,e,f,b,g,h,i,j,n,m,[7,6])).bind λX=>cond X ((mV N N ([r],1,0,c,d,a,e,f,b,g,h,i,j)).bind λY=>match Y with|.inl Z=>some (!(decide (Z>=0)))|.inr c0=>some (!(decide ((-1:Int)>=0)))) false) (cond (l==20) ((L6 N (c,d,a,e,f,b,g,h,i,j,m,r,[7,6])).bind λa0=>cond a0 ((mW N N ([n],1,0,c,d,a,e,f,b,g,h,i,j)).bind λa1=>match a1 with|.inl a2=>some (!(decide (a2>=0)))|.inr c1=>some (!(decide ((-1:Int)>=0)))) false) (cond (l==21) ((mX N N ([m],1,0,c,d,a,e,f,b,g,h,i,j)).bind λa3=>match a3 with|.inl o=>cond (!(decide (o.1>=0))) ((mB N (o.2.1,o.2.2.1,o.2.2.2.1,o.2.2.2.2.1,o.2.2.2.2.2.1,o.2.2.2.2.2.2.1,o.2.2.2.2.2.2.2.1,o.2.2.2.2.2.2.2.2.1,o.2.2.2.2.2.2.2.2.2.1,o.2.2.2.2.2.2.2.2.2.2,n,[3,7,6])).bind λa4=>a4) false|.inr p=>(mB N (p.1,p.2.1,p.2.2.1,p.2.2.2.1,p.2.2.2.2.1,p.2.2.2.2.2.1,p.2.2.2.2.2.2.1,p.2.2.2.2.2.2.2.1,p.2.2.2.2.2.2.2.2.1,p.2.2.2.2.2.2.2.2.2,n,[3,7,6])).bind λa5=>a5) (cond (l==25) ((cond (s<0) (some true) ((idx a t).bind λa6=>some (a6.2.2.1==m))).bind λa7=>a7) ((cond (l==26) (some true) (some (l==27))).bind λa8=>cond a8 ((idx a s).bind λq=>(XM N (c,d,a,e,f,b,g,h,i,j,q.1,q.2.1,q.2.2.1,q.2.2.2.1,q.2.2.2.2.1,q.2.2.2.2.2.1,q.2.2.2.2.2.2)).bind λa9=>a9) (cond (l==28) ((mB N (c,d,a,e,f,b,g,h,i,j,m,[2,1,3])).bind λb0=>b0) ((cond (l==29) (some true) (some (l==33))).bind λb1=>cond b1 ((mB N (c,d,a,e,f,b,g,h,i,j,m,[1])).bind λb2=>cond b2 ((mY N N ([n],1,0,c,d,a,e,f,b,g,h,i,j)).bind λb3=>match b3 with|.inl b4=>some (!(decide (b4>=0)))|.inr c2=>some (!(decide ((-1:Int)>=0)))) false) (cond (l==34) ((cond (s<0) (some true) (some (b==m))).bind λb5=>b5) true)))))))))))))))))))))
def aoy:=(au7 N).p (XV N) (by delta XV;rw[as4 N N,as7 N N,au2 N N,au8 N N,av1 N N,av2 N N,av3 N N,av6 N N];kernel_rfl)
def aoz(N:Nat)(x:tmI):Option tmI:=some x
def aoA:Evq:=⟨(aoy N).E.pJ 350 (Cj .I),λA=>((aoy N).ok A).pJ (Ox (by kernel_rfl))⟩
def L7(N:Nat):Int->Option (Int×Int)|a=>(cond (a<0) (some true) (some (decide (a>1073741824)))).bind λb=>cond b (some (0,2)) (some ((qm .i64 (av (a+7)) 7),0))
def ahz:=((aoA N).on 155 ⟨[.I],[tmf [.I],tmf [.I]],0,[(0,1,9,.bool)],[],[],[]⟩).p (L7 N)
def XX:=(ahz N).on 288 (sg [.agg (cP bM),.c (.sl .I .bD)] [tmf [.I],tmf [.I]])
def Nm:Nat->Int×tmI×Int×Int×dS->Option ((Int×Int)⊕Int)|0,_=>none|k+1,(d,e,f,a,g,h,i,j,l,m,n,o,p,q)=>cond (a<f) ((idx e a).bind λr=>(SE N (g,r)).bind λb=>cond (b.2.2!=0) (some (Sum.inl (0,b.2.2))) ((L7 N b.1).bind λc=>cond (c.2!=0) (some (Sum.inl (0,c.2))) (Nm k ((av (d+c.1)),e,f,(av (a+1)),g,h,i,j,l,m,n,o,p,q)))) (some (Sum.inr d))
def au9:=(XX N).l N 4 (tm [(2,.P 0 2 0),(6,.I),(12,.c (.sl .I .bD)),(13,.I),(14,.I)] [] [(0,2,.box 0 (cP bM))] 1 [] 1) [tmr [(4,.I),(5,.I)],(.exit 0,tmn [(6,.I)])]
theorem av9:lpT (au9 N) (Nm N):=lpI
def SI:eg tmI->Option (Int×Int)|(c,d,e,f,g,h,i,j,l,m,a)=>(Nm N N (0,a,(a.length:Int),0,c,d,e,f,g,h,i,j,l,m)).bind λn=>match n with|.inl b=>(b.1,b.2)|.inr o=>some (o,0)
def ahB:=(au9 N).p (SI N) (by delta SI;rw[av9 N N];kernel_rfl)
def XY:=(ahB N).on 285 ⟨[.agg (bg bM),.agg (bg bf),.D .I],[tmf [.D .I],tmf [.bool]],0,[],[],[(0,24,.I)],[(0,6,[tmr [(6,.N),(7,.Q)],(.normal,tm [(2,.D .I),(3,.P 0 3 0)] [] [(0,3,.box 0 (bg bM))] 1 [] 1)]),(0,2,[(.normal,tm [(2,.D .I),(3,.P 0 3 1),(4,.P 0 4 2)] [] [(0,3,.box 1 (bg bM)),(0,4,.box 2 (bg bf))] 1 [] 3)])]⟩
def No(N:Nat):Nat->tmI×Int×tmI×Int×Int×eg ic->Option (Bool⊕(tmI×Int×dS))|0,_=>none|k+1,(b,c,d,e,a,f,g,h,i,j,l,m,n,o,p,r,s,t,q,u,v,w)=>cond (a<e) ((idx d a).bind λx=>(idx q a).bind λy=>cond (y.2!=x) (some (Sum.inl false)) (No N k (b,c,d,e,(av (a+1)),f,g,h,i,j,l,m,n,o,p,r,s,t,q,u,v,w))) (some (Sum.inr (b,c,f,g,h,i,j,l,m,n,o,p)))
def ava:=(XY N).l N 14 (tm [(2,.D .I),(3,.P 0 3 0),(9,.P 0 9 1),(10,.I),(45,.D .I),(46,.I),(47,.I)] [] [(0,3,.box 0 (bg bM)),(0,9,.box 1 (bg dQ))] 1 [] 2) [tmr [(6,.N),(7,.Q)],(.exit 0,tm [(2,.D .I),(3,.P 0 3 0),(10,.I)] [] [(0,3,.box 0 (bg bM))] 1 [] 1)]
theorem aw0:lpT (ava N) (No N):=lpI
def Ji:eg (Oy tmI)->Option (tmI×Bool)|(e,f,g,h,i,j,l,m,n,o,p,q,r,s,t)=>(cond (p==24) ((aoz N t).bind λu=>(L5 N (e,f,g,h,i,j,l,m,n,o,q)).bind λx=>aK (room (u.length+1) 8) (some ((u++[x]),e,f,g,h,i,j,l,m,n,o,p,q,r,s))) (some (t,e,f,g,h,i,j,l,m,n,o,p,q,r,s))).bind λa=>(SG N (a.2.2.2.2.2.2.2.2.2.2.2.1,a.2.2.2.2.2.2.2.2.2.2.2.2.1,a.2.2.2.2.2.2.2.2.2.2.2.2.2.1,a.2.2.2.2.2.2.2.2.2.2.2.2.2.2)).bind λv=>(cond (v>=0) ((idx a.2.2.2.1 v).bind λc=>cond ((av ((a.1.length:Int)-c.2.1))<0) (some (Sum.inl false)) (aK (decide (0<=(av ((a.1.length:Int)-c.2.1)))) (aK (decide ((Int.toNat (av ((a.1.length:Int)-c.2.1)))<=a.1.length)) ((No N N (a.1,(av ((a.1.length:Int)-c.2.1)),(a.1.drop (Int.toNat (av ((a.1.length:Int)-c.2.1)))),((a.1.drop (Int.toNat (av ((a.1.length:Int)-c.2.1)))).length:Int),0,a.2.1,a.2.2.1,a.2.2.2.1,a.2.2.2.2.1,a.2.2.2.2.2.1,a.2.2.2.2.2.2.1,a.2.2.2.2.2.2.2.1,a.2.2.2.2.2.2.2.2.1,a.2.2.2.2.2.2.2.2.2.1,a.2.2.2.2.2.2.2.2.2.2.1,c.1,c.2.1,c.2.2.1,c.2.2.2.1,c.2.2.2.2.1,c.2.2.2.2.2.1,c.2.2.2.2.2.2)).bind λy=>match y with|.inl z=>some (Sum.inl z)|.inr b=>aK (decide (0<=b.2.1)) (aK (decide (b.2.1.toNat<=b.1.length)) (some (Sum.inr ((b.1.take b.2.1.toNat),b.2.2.1,b.2.2.2.1,b.2.2.2.2.1,b.2.2.2.2.2.1,b.2.2.2.2.2.2.1,b.2.2.2.2.2.2.2.1,b.2.2.2.2.2.2.2.2.1,b.2.2.2.2.2.2.2.2.2.1,b.2.2.2.2.2.2.2.2.2.2.1,b.2.2.2.2.2.2.2.2.2.2.2)))))))) (some (Sum.inr (a.1,a.2.1,a.2.2.1,a.2.2.2.1,a.2.2.2.2.1,a.2.2.2.2.2.1,a.2.2.2.2.2.2.1,a.2.2.2.2.2.2.2.1,a.2.2.2.2.2.2.2.2.1,a.2.2.2.2.2.2.2.2.2.1,a.2.2.2.2.2.2.2.2.2.2.1)))).bind λA=>match A with|.inl B=>some ([],B)|.inr d=>(SI N (d.2.1,d.2.2.1,d.2.2.2.1,d.2.2.2.2.1,d.2.2.2.2.2.1,d.2.2.2.2.2.2.1,d.2.2.2.2.2.2.2.1,d.2.2.2.2.2.2.2.2.1,d.2.2.2.2.2.2.2.2.2.1,d.2.2.2.2.2.2.2.2.2.2,d.1)).bind λw=>cond (w.2==0) (some (d.1,(decide (w.1<=4096)))) (d.1,false)
def aoF:=(ava N).p (Ji N) (by delta Ji;rw[aw0 N N];kernel_rfl)
def XZ:List Instr×Int->Option (tmI×Int)|(a,b)=>(OM N a).bind λc=>cond (c !=0) (some ([],c)) ((cond (b<0) (some true) (some (decide (b>=a.length)))).bind λd=>cond d (some ([],2)) ((ON N (a,b)).bind λe=>some (e,0)))
def ahD:=((aoF N).on 286 ⟨[.c (.sl bf .bD),.I],[tmf [.D .I],tmf [.I]],0,[(0,5,19,.bool)],[],[],[]⟩).p (XZ N)
def X0:=(ahD N).on 287 (sg [.c (.sl .I .bD),.c (.sl .I .bD)] [tmf [.bool]])
def NE(N:Nat):Nat->tmI×tmI×Int×Int->Option (Bool⊕Unit)|0,_=>none|k+1,(b,c,d,a)=>cond (a<d) ((idx b a).bind λe=>(idx c a).bind λf=>cond (e !=f) (some (Sum.inl false)) (NE N k (b,c,d,(av (a+1))))) (some (Sum.inr ()))
def avb:=(X0 N).l N 6 (tmn [(0,.c (.sl .I .bD)),(1,.c (.sl .I .bD)),(12,.I),(13,.I)]) [tmr [(4,.Q)],tmx]
theorem aw2:lpT (avb N) (NE N):=lpI
def X4:tmI×tmI->Option Bool|(a,b)=>cond ((a.length:Int)!=(b.length:Int)) false ((NE N N (a,b,(a.length:Int),0)).bind λc=>match c with|.inl d=>d|.inr e=>true)
def ahF:=(avb N).p (X4 N) (by delta X4;rw[aw2 N N];kernel_rfl)
def X5:=(ahF N).on 200 ⟨[.agg (bg bM)],[tmf [.D .U],tmf [.bool]],0,[(0,14,70,.bool)],[],[(0,25,(.sl .I)),(0,28,.bool),(0,31,.I),(0,90,.I),(0,105,.U)],[]⟩
def iV:Nat->List Instr×tmI×tmI×Int×Int×eg (List tmI×List Bool×tmI)->Option (Bool⊕(List Instr×eg (List tmI×List Bool×tmI)))|0,_=>none|k+1,(g,d,h,i,e,j,l,m,n,o,p,q,r,s,t,b,c,f)=>cond (e<i) ((idx h e).bind λa=>aK (gB a c.length) ((c[a.toNat]?).bind λu=>cond (!u) (aK (room (f.length+1) 8) (aK (gB a b.length) ((b[a.toNat]?).bind λx=>aK (gB a c.length) ((c[a.toNat]?).bind λy=>iV k (g,d,h,i,(av (e+1)),j,l,m,n,o,p,q,r,s,t,(b.set a.toNat d),(c.set a.toNat true),(f++[a])))))) (aK (gB a b.length) ((b[a.toNat]?).bind λv=>(X4 N (v,d)).bind λw=>cond (!w) (some (Sum.inl false)) (iV k (g,d,h,i,(av (e+1)),j,l,m,n,o,p,q,r,s,t,b,c,f)))))) (some (Sum.inr (g,j,l,m,n,o,p,q,r,s,t,b,c,f)))
def X6:=(X5 N).l N 19 (tm [(1,.P 0 1 0),(4,.D bf),(5,.R 0 25 1 (.sl .I)),(6,.R 0 28 2 .bool),(7,.R 0 31 3 .I),(9,.D .I),(71,.D .I),(72,.I),(73,.I)] [] [(0,1,.box 0 (bg bM)),(0,25,.row 1 (.sl .I)),(0,28,.row 2 .bool),(0,31,.row 3 .I)] 1 [] 4) [tmr [(2,.N),(3,.Q)],(.exit 2,tm [(1,.P 0 1 0),(4,.D bf),(5,.R 0 25 1 (.sl .I)),(6,.R 0 28 2 .bool),(7,.R 0 31 3 .I)] [] [(0,1,.box 0 (bg bM)),(0,25,.row 1 (.sl .I)),(0,28,.row 2 .bool),(0,31,.row 3 .I)] 1 [] 4)]
theorem aw3:lpT (X6 N) (iV N):=lpI
def iW:Nat->List Instr×eg (List tmI×List Bool×tmI)->Option (Bool⊕(List Instr×eg (List tmI)))|0,_=>none|k+1,(c,g,h,i,j,l,m,n,o,p,q,d,t,b)=>cond ((b.length:Int)>0) (aK (gB (av ((b.length:Int)-1)) b.length) ((b[(Int.toNat (av ((b.length:Int)-1)))]?).bind λe=>aK (decide (0<=(av ((b.length:Int)-1)))) (aK (decide ((Int.toNat (av ((b.length:Int)-1)))<=b.length)) ((idx c e).bind λf=>aK (gB e d.length) ((d[e.toNat]?).bind λu=>(Ji N (g,h,i,j,l,m,n,o,p,q,f.1,f.2.1,f.2.2.1,f.2.2.2,u)).bind λs=>(XZ N (c,e)).bind λr=>(cond (!s.2) (some true) (some (r.2!=0))).bind λv=>cond v (some (Sum.inl false)) ((iV N N (c,s.1,r.1,(r.1.length:Int),0,g,h,i,j,l,m,n,o,p,q,d,t,(b.take (Int.toNat (av ((b.length:Int)-1)))))).bind λw=>match w with|.inl x=>some (Sum.inl x)|.inr a=>iW k (a.1,a.2.1,a.2.2.1,a.2.2.2.1,a.2.2.2.2.1,a.2.2.2.2.2.1,a.2.2.2.2.2.2.1,a.2.2.2.2.2.2.2.1,a.2.2.2.2.2.2.2.2.1,a.2.2.2.2.2.2.2.2.2.1,a.2.2.2.2.2.2.2.2.2.2.1,a.2.2.2.2.2.2.2.2.2.2.2.1,a.2.2.2.2.2.2.2.2.2.2.2.2.1,a.2.2.2.2.2.2.2.2.2.2.2.2.2))))))) (some (Sum.inr (c,g,h,i,j,l,m,n,o,p,q,d)))
def X7:=(X6 N).l N 6 (tm [(1,.P 0 1 0),(4,.D bf),(5,.R 0 25 1 (.sl .I)),(6,.R 0 28 2 .bool),(7,.R 0 31 3 .I)] [] [(0,1,.box 0 (bg bM)),(0,25,.row 1 (.sl .I)),(0,28,.row 2 .bool),(0,31,.row 3 .I)] 1 [] 4) [tmr [(2,.N),(3,.Q)],(.exit 0,tm [(1,.P 0 1 0),(4,.D bf),(5,.R 0 25 1 (.sl .I))] [] [(0,1,.box 0 (bg bM)),(0,25,.row 1 (.sl .I))] 1 [] 2)]
theorem aw4:lpT (X7 N) (iW N):=lpJ λk=>funext λ⟨a,b,c,d,e,f,g,h,i,j,l,m,n,o⟩=>by rw[iW,aw3 N N];kernel_rfl
def xb:Nat->List Instr×Int×Int×eg (List tmI×tmI)->Option (Bool⊕(List Instr×List tmI×tmI))|0,_=>none|k+1,(d,e,a,f,g,h,i,j,l,m,n,o,p,b,c)=>cond (a<e) (aK (gB a b.length) ((b[a.toNat]?).bind λr=>(SI N (f,g,h,i,j,l,m,n,o,p,r)).bind λq=>cond (q.2!=0) (some (Sum.inl false)) (aK (gB a c.length) ((c[a.toNat]?).bind λs=>xb k (d,e,(av (a+1)),f,g,h,i,j,l,m,n,o,p,b,(c.set a.toNat (aS q.1))))))) (some (Sum.inr (d,b,c)))
def avc:=(X7 N).l N 35 (tm [(1,.P 0 1 0),(4,.D bf),(5,.R 0 25 1 (.sl .I)),(15,.R 0 105 2 .U),(106,.R 0 25 1 (.sl .I)),(107,.I),(108,.I)] [] [(0,1,.box 0 (bg bM)),(0,25,.row 1 (.sl .I)),(0,105,.row 2 .U)] 1 [] 3) [tmr [(2,.N),(3,.Q)],(.exit 5,tm [(4,.D bf),(5,.R 0 25 0 (.sl .I)),(15,.R 0 105 1 .U)] [] [(0,25,.row 0 (.sl .I)),(0,105,.row 1 .U)] 1 [] 2)]
theorem aw5:lpT (avc N) (xb N):=lpI
def SJ:dS->Option (tmI×Bool)|(d,e,f,g,h,i,j,b,l,m)=>aK (decide (0<=(b.length:Int))) (aK (decide (0<=(b.length:Int))) (aK (decide ((Int.toNat (b.length:Int))<=(Int.toNat (b.length:Int)))&&room (Int.toNat (b.length:Int)) 24) (aK (decide (0<=(b.length:Int))) (aK (decide (0<=(b.length:Int))) (aK (decide ((Int.toNat (b.length:Int))<=(Int.toNat (b.length:Int)))&&room (Int.toNat (b.length:Int)) 1) (aK (gB 0 (List.replicate (Int.toNat (b.length:Int)) false).length) (((List.replicate (Int.toNat (b.length:Int)) false)[(Int.toNat 0)]?).bind λs=>(iW N N (b,d,e,f,g,h,i,j,b,l,m,(List.replicate (Int.toNat (b.length:Int)) []),((List.replicate (Int.toNat (b.length:Int)) false).set (Int.toNat 0) true),[0])).bind λn=>match n with|.inl o=>some ([],o)|.inr a=>aK (decide (0<=(a.1.length:Int))) (aK (decide (0<=(a.1.length:Int))) (aK (decide ((Int.toNat (a.1.length:Int))<=(Int.toNat (a.1.length:Int)))&&room (Int.toNat (a.1.length:Int)) 8) ((xb N N (a.1,(a.2.2.2.2.2.2.2.2.2.2.2.length:Int),0,a.2.1,a.2.2.1,a.2.2.2.1,a.2.2.2.2.1,a.2.2.2.2.2.1,a.2.2.2.2.2.2.1,a.2.2.2.2.2.2.2.1,a.2.2.2.2.2.2.2.2.1,a.2.2.2.2.2.2.2.2.2.1,a.2.2.2.2.2.2.2.2.2.2.1,a.2.2.2.2.2.2.2.2.2.2.2,(List.replicate (Int.toNat (a.1.length:Int)) (0:Int)))).bind λp=>match p with|.inl q=>some ([],q)|.inr c=>aK (gB (av ((c.1.length:Int)-1)) c.2.1.length) ((c.2.1[(Int.toNat (av ((c.1.length:Int)-1)))]?).bind λr=>some (c.2.2,((r.length:Int)==0)))))))))))))
def ahH:=(avc N).p (SJ N) (by delta SJ;rw[aw4 N N,aw5 N N];kernel_rfl)
def Ya:=(ahH N).on 289 (sg [.c (.sl .I .bD)] [tmf [.U]])
def Ok(N:Nat):Nat->Int×tmI×Int×Int->Option Int|0,_=>none|k+1,(b,c,d,a)=>cond (a<d) ((idx c a).bind λe=>aK (!(e<0)) (Ok N k ((DW .u64 b (aS (1*(2^min e.toNat 64)))),c,d,(av (a+1))))) b
def avd:=(Ya N).l N 4 (tmn [(3,.U),(6,.c (.sl .I .bD)),(7,.I),(8,.I)]) [(.exit 0,tmn [(3,.U)])]
theorem aw6:lpT (avd N) (Ok N):=lpI
def SK:tmI->Option Int|a=>(Ok N N (0,a,(a.length:Int),0)).bind λb=>b
def ahJ:=(avd N).p (SK N) (by delta SK;rw[aw6 N N];kernel_rfl)
def Yb:=(ahJ N).on 201 ⟨[.c (.sl bf .bD),.I,.I],[tmf [.D .U],tmf [.I]],0,[(0,5,36,.bool)],[],[(0,39,.U),(0,74,.U),(0,77,.bool),(1080000,10,.I),(1080000,39,.I)],[]⟩
def om:Nat->List Instr×Int×List Instr×Int×Int×Int×tmI->Option (Int⊕(List Instr×Int×tmI))|0,_=>none|k+1,(g,e,h,i,a,j,b)=>cond (a<i) ((idx h a).bind λc=>(OO N (c.1,c.2.1,c.2.2.1,c.2.2.2)).bind λd=>cond (d.2.2!=0) (some (Sum.inl d.2.2)) ((SK N d.2.1).bind λf=>aK (gB a b.length) ((b[a.toNat]?).bind λn=>(SK N d.1).bind λl=>aK (gB a (b.set a.toNat f).length) (((b.set a.toNat f)[a.toNat]?).bind λm=>aK (!(e<0)) (cond ((Int.fdiv (DW .u64 l m) (2^min e.toNat 64))!=0) (some (Sum.inl 16)) (om k (g,e,h,i,(av (a+1)),j,(b.set a.toNat f)))))))) (some (Sum.inr (g,j,b)))
def Yc:=(Yb N).l N 11 (tm [(0,.c (.sl bf .bD)),(2,.I),(4,.P 0 4 0),(9,.P 0 9 1),(40,.c (.sl bf .bD)),(41,.I),(42,.I)] [] [(0,4,.box 0 [.I]),(0,9,.box 1 [.ref 0 39 2 .U]),(0,39,.row 2 .U)] 1 [] 3) [tmr [(6,.N),(7,.I)],(.exit 0,tm [(0,.c (.sl bf .bD)),(4,.P 0 4 0),(9,.P 0 9 1)] [] [(0,4,.box 0 [.I]),(0,9,.box 1 [.ref 0 39 2 .U]),(0,39,.row 2 .U)] 1 [] 3)]
theorem aw9:lpT (Yc N) (om N):=lpI
def iX(N:Nat):Nat->List Instr×Int×tmI×Int×Int×Int×List Bool×tmI×tmI×tmI->Option (List Instr×Int×List Bool×tmI×tmI×tmI)|0,_=>none|k+1,(i,d,j,l,h,f,c,b,g,e)=>cond (h<l) ((idx j h).bind λa=>cond (d<0) (aK (!(f<0)) (aK (gB a c.length) ((c[a.toNat]?).bind λs=>aK (gB a b.length) ((b[a.toNat]?).bind λt=>aK (room (e.length+1) 8) (iX N k (i,d,j,l,(av (h+1)),f,(c.set a.toNat true),(b.set a.toNat (aS ((aS (1*(2^min f.toNat 64)))-1))),g,(e++[a]))))))) (aK (gB d b.length) ((b[d.toNat]?).bind λm=>aK (gB d g.length) ((g[d.toNat]?).bind λn=>aK (gB a c.length) ((c[a.toNat]?).bind λp=>cond (!p) (aK (gB a c.length) ((c[a.toNat]?).bind λu=>aK (gB a b.length) ((b[a.toNat]?).bind λv=>aK (room (e.length+1) 8) (iX N k (i,d,j,l,(av (h+1)),f,(c.set a.toNat true),(b.set a.toNat (DW .u64 m n)),g,(e++[a])))))) (aK (gB a b.length) ((b[a.toNat]?).bind λq=>aK (gB a b.length) ((b[a.toNat]?).bind λo=>aK (gB a b.length) ((b[a.toNat]?).bind λw=>aK (gB a (b.set a.toNat (vI .u64 o (DW .u64 m n))).length) (((b.set a.toNat (vI .u64 o (DW .u64 m n)))[a.toNat]?).bind λr=>cond (r !=q) (aK (room (e.length+1) 8) (iX N k (i,d,j,l,(av (h+1)),f,c,(b.set a.toNat (vI .u64 o (DW .u64 m n))),g,(e++[a])))) (iX N k (i,d,j,l,(av (h+1)),f,c,(b.set a.toNat (vI .u64 o (DW .u64 m n))),g,e)))))))))))) (i,f,c,b,g,e)
def Yd:=(Yc N).L N 1080000 11 272 11 (tm [(0,.c (.sl bf .bD)),(1,.fK 290 [.P 0 4 0,.P 0 16 1,.P 0 15 2,.P 0 9 3]),(4,.R 1 10 4 .I),(5,.I),(27,.D .I),(28,.I),(29,.I)] [[(15,.P 0 15 2)]] [(0,4,.box 0 [.I]),(0,16,.box 1 [.ref 0 77 5 .bool]),(0,77,.row 5 .bool),(0,15,.box 2 [.ref 0 74 6 .U]),(0,74,.row 6 .U),(0,9,.box 3 [.ref 0 39 7 .U]),(0,39,.row 7 .U),(1,10,.row 4 .I)] 2 [] 8) [(.exit 2,tm [(0,.c (.sl bf .bD)),(1,.fK 290 [.P 0 4 0,.P 0 16 1,.P 0 15 2,.P 0 9 3]),(4,.R 1 10 4 .I)] [[(15,.P 0 15 2)]] [(0,4,.box 0 [.I]),(0,16,.box 1 [.ref 0 77 5 .bool]),(0,77,.row 5 .bool),(0,15,.box 2 [.ref 0 74 6 .U]),(0,74,.row 6 .U),(0,9,.box 3 [.ref 0 39 7 .U]),(0,39,.row 7 .U),(1,10,.row 4 .I)] 2 [] 8)]
theorem ax0:lpT (Yd N) (iX N):=lpI
def oo:Nat->List Instr×Int×List Bool×tmI×tmI×tmI->Option tmI|0,_=>none|k+1,(c,g,h,d,i,a)=>cond ((a.length:Int)>0) (aK (gB (av ((a.length:Int)-1)) a.length) ((a[(Int.toNat (av ((a.length:Int)-1)))]?).bind λe=>aK (decide (0<=(av ((a.length:Int)-1)))) (aK (decide ((Int.toNat (av ((a.length:Int)-1)))<=a.length)) ((ON N (c,e)).bind λf=>(iX N N (c,e,f,(f.length:Int),0,g,h,d,i,(a.take (Int.toNat (av ((a.length:Int)-1)))))).bind λb=>oo k (b.1,b.2.1,b.2.2.1,b.2.2.2.1,b.2.2.2.2.1,b.2.2.2.2.2))))) d
def ave:=(Yd N).L N 1080000 3 272 3 (tm [(0,.c (.sl bf .bD)),(1,.fK 290 [.P 0 4 0,.P 0 16 1,.P 0 15 2,.P 0 9 3]),(4,.R 1 10 4 .I)] [[(15,.P 0 15 2)]] [(0,4,.box 0 [.I]),(0,16,.box 1 [.ref 0 77 5 .bool]),(0,77,.row 5 .bool),(0,15,.box 2 [.ref 0 74 6 .U]),(0,74,.row 6 .U),(0,9,.box 3 [.ref 0 39 7 .U]),(0,39,.row 7 .U),(1,10,.row 4 .I)] 2 [] 8) [(.exit 0,tm [] [[(15,.P 0 15 0)]] [(0,15,.box 0 [.ref 0 74 1 .U]),(0,74,.row 1 .U)] 2 [] 2)]
theorem ax1:lpT (ave N) (oo N):=lpJ λk=>funext λ⟨a,b,c,d,e,f⟩=>by rw[oo,ax0 N N];kernel_rfl
def L8:List Instr×Int×Int->Option (tmI×Int)|(b,e,d)=>(OM N b).bind λf=>cond (f !=0) (some ([],f)) ((cond (d<0) (some true) (cond (d>16) (some true) (cond (e<0) (some true) (some (decide (e>d)))))).bind λg=>cond g (some ([],2)) (aK (decide (0<=(b.length:Int))) (aK (decide (0<=(b.length:Int))) (aK (decide ((Int.toNat (b.length:Int))<=(Int.toNat (b.length:Int)))&&room (Int.toNat (b.length:Int)) 8) ((om N N (b,d,b,(b.length:Int),0,e,(List.replicate (Int.toNat (b.length:Int)) (0:Int)))).bind λh=>match h with|.inl i=>some ([],i)|.inr a=>aK (decide (0<=(a.1.length:Int))) (aK (decide (0<=(a.1.length:Int))) (aK (decide ((Int.toNat (a.1.length:Int))<=(Int.toNat (a.1.length:Int)))&&room (Int.toNat (a.1.length:Int)) 8) (aK (decide (0<=(a.1.length:Int))) (aK (decide (0<=(a.1.length:Int))) (aK (decide ((Int.toNat (a.1.length:Int))<=(Int.toNat (a.1.length:Int)))&&room (Int.toNat (a.1.length:Int)) 1) (aK (!(a.2.1<0)) (aK (gB 0 (List.replicate (Int.toNat (a.1.length:Int)) false).length) (((List.replicate (Int.toNat (a.1.length:Int)) false)[(Int.toNat 0)]?).bind λj=>aK (gB 0 (List.replicate (Int.toNat (a.1.length:Int)) (0:Int)).length) (((List.replicate (Int.toNat (a.1.length:Int)) (0:Int))[(Int.toNat 0)]?).bind λl=>(oo N N (a.1,a.2.1,((List.replicate (Int.toNat (a.1.length:Int)) false).set (Int.toNat 0) true),((List.replicate (Int.toNat (a.1.length:Int)) (0:Int)).set (Int.toNat 0) (aS ((aS (1*(2^min a.2.1.toNat 64)))-1))),a.2.2,[0])).bind λc=>aK (gB (av ((c.length:Int)-1)) c.length) ((c[(Int.toNat (av ((c.length:Int)-1)))]?).bind λm=>some ((c.set (Int.toNat (av ((c.length:Int)-1))) 0),0))))))))))))))))
def ahL:=(ave N).p (L8 N) (by delta L8;rw[aw9 N N,ax1 N N];kernel_rfl)
def Ye:=(ahL N).on 203 ⟨[.c (.sl .U .bD)],[tmf [.D iN],tmf [.I]],0,[(0,13,31,.bool)],[],[(0,39,iN)],[]⟩
def xd(N:Nat):Nat->tmI×List fA×Int×Int->Option (List fA)|0,_=>none|k+1,(b,c,d,a)=>cond (a<d) ((cond (a>0) ((idx b a).bind λe=>(idx b (av (a-1))).bind λf=>some (e==f)) (some false)).bind λg=>cond g (xd N k (b,c,d,(av (a+1)))) ((idx b a).bind λh=>aK (room (c.length+1) 16) (xd N k (b,(c++[(a,h)]),d,(av (a+1)))))) c
def avf:=(Ye N).l N 8 (tmv [(0,.c (.sl .U .bD)),(5,.A iN 0),(14,.I),(15,.I)] 0 1) [(.exit 0,tmv [(5,.A iN 0)] 0 1)]
theorem ax3:lpT (avf N) (xd N):=lpI
def SM:tmI->Option (List fA×Int)|a=>(SF N (a.length:Int)).bind λb=>cond (b !=0) (some ([],b)) ((xd N N (a,[],(a.length:Int),0)).bind λc=>some (c,0))
def ahN:=(avf N).p (SM N) (by delta SM;rw[ax3 N N];kernel_rfl)
def Yf:=(ahN N).on 130 ⟨[.agg (bg aW),.I],[(true,(bg abL))],0,[(0,7,53,.bool),(0,51,139,.bool)],[],[],[]⟩
def Or:Nat->List Instr×List Bool×List Instr×vz dS->Option ((Int×Int)⊕(List Instr×Int×Int×dS))|0,_=>none|k+1,(n,o,p,q,b,r,s,c,d,e,f,g,h,i,j,l,m)=>cond (b<q) ((idx p b).bind λa=>(XJ N (c,d,e,f,g,h,i,j,l,m,a.1,a.2.1,a.2.2.1,a.2.2.2)).bind λt=>cond (t !=0) (some (Sum.inl (b,16))) ((idx o b).bind λu=>cond (!u) (some (Sum.inl (b,6))) ((XV N (c,d,e,f,g,h,i,j,l,m,a.1,a.2.1,a.2.2.1,a.2.2.2)).bind λv=>cond (!v) (some (Sum.inl (b,30))) (Or k (n,o,p,q,(av (b+1)),r,s,c,d,e,f,g,h,i,j,l,m))))) (some (Sum.inr (n,r,s,c,d,e,f,g,h,i,j,l,m)))
def Yg:=(Yf N).l N 12 (tm [(4,.P 0 4 0),(5,.P 0 5 1),(6,.D bf),(7,.D .bool),(55,.D bf),(56,.I),(57,.I)] [] [(0,4,.box 0 [.nil true,.nil true,.I,.I]),(0,5,.box 1 (bg bM))] 1 [] 2) [(.ret,tm [(4,.P 0 4 0)] [] [(0,4,.box 0 [.nil true,.nil true,.I,.I])] 1 [] 1),(.exit 0,tm [(4,.P 0 4 0),(5,.P 0 5 1),(6,.D bf)] [] [(0,4,.box 0 [.nil true,.nil true,.I,.I]),(0,5,.box 1 (bg bM))] 1 [] 2)]
theorem ax4:lpT (Yg N) (Or N):=lpI
def zW(N:Nat):Nat->tmI×tmI×Int×Int×List Instr×Int×Int×Cm->Option ((Int×Int)⊕(tmI×tmI×List Instr×Cl))|0,_=>none|k+1,(d,a,b,e,f,g,h,i,j,c,l,m)=>cond (c<j) ((idx i c).bind λn=>(cond (e !=0) (some true) ((idx a b).bind λo=>aK (!(n<0)) (some ((vI .u64 (Int.fdiv o (2^min n.toNat 64)) 1)==0)))).bind λp=>cond p (some (Sum.inl (b,38))) (zW N k (d,a,b,e,f,g,h,i,j,(av (c+1)),l,m))) (some (Sum.inr (d,a,f,g,h,l,m)))
def Yh:=(Yg N).l N 46 (tm [(4,.P 0 4 0),(11,.D .U),(13,.D .U),(14,.I),(18,.I),(109,.D bf),(110,.I),(111,.I),(122,.D .I),(123,.I),(124,.I)] [] [(0,4,.box 0 [.nil true,.nil true,.I,.I])] 1 [] 1) [(.ret,tm [(4,.P 0 4 0)] [] [(0,4,.box 0 [.nil true,.nil true,.I,.I])] 1 [] 1),(.exit 5,tm [(4,.P 0 4 0),(11,.D .U),(13,.D .U),(109,.D bf),(110,.I),(111,.I)] [] [(0,4,.box 0 [.nil true,.nil true,.I,.I])] 1 [] 1)]
theorem ax5:lpT (Yh N) (zW N):=lpI
def zX:Nat->tmI×tmI×List Instr×Cl->Option ((Int×Int)⊕(tmI×tmI×Int×Int))|0,_=>none|k+1,(e,f,g,h,b,i,j)=>cond (b<h) ((idx g b).bind λc=>(OO N (c.1,c.2.1,c.2.2.1,c.2.2.2)).bind λd=>(zW N N (e,f,b,d.2.2,g,h,b,d.1,(d.1.length:Int),0,i,j)).bind λm=>match m with|.inl l=>some (Sum.inl (l.1,l.2))|.inr a=>zX k (a.1,a.2.1,a.2.2.1,a.2.2.2.1,(av (a.2.2.2.2.1+1)),a.2.2.2.2.2.1,a.2.2.2.2.2.2)) (some (Sum.inr (e,f,i,j)))
def avg:=(Yh N).l N 38 (tm [(4,.P 0 4 0),(11,.D .U),(13,.D .U),(109,.D bf),(110,.I),(111,.I)] [] [(0,4,.box 0 [.nil true,.nil true,.I,.I])] 1 [] 1) [(.ret,tm [(4,.P 0 4 0)] [] [(0,4,.box 0 [.nil true,.nil true,.I,.I])] 1 [] 1),(.exit 3,tm [(4,.P 0 4 0),(11,.D .U),(13,.D .U)] [] [(0,4,.box 0 [.nil true,.nil true,.I,.I])] 1 [] 1)]
theorem ax6:lpT (avg N) (zX N):=lpJ λk=>funext λ⟨a,b,c,d,e,f,g⟩=>by rw[zX,ax5 N N];kernel_rfl
def Yk:bT Int->Option Qw|(n,o,e,f)=>(idx e f).bind λb=>(XG N b.2.2.2.2.1).bind λg=>cond (g.2!=0) (some ([],[],(-1),12)) ((cond (f==0) (cond (b.2.1>0) (some true) (some (decide (b.2.2.1>=0)))) (some false)).bind λp=>cond p (some ([],[],(-1),30)) ((Or N N (b.2.2.2.2.1,g.1,b.2.2.2.2.1,(b.2.2.2.2.1.length:Int),0,0,0,n,o,e,b.1,b.2.1,b.2.2.1,b.2.2.2.1,b.2.2.2.2.1,b.2.2.2.2.2.1,b.2.2.2.2.2.2)).bind λq=>match q with|.inl h=>some ([],[],h.1,h.2)|.inr a=>(SJ N (a.2.2.2.1,a.2.2.2.2.1,a.2.2.2.2.2.1,a.2.2.2.2.2.2.1,a.2.2.2.2.2.2.2.1,a.2.2.2.2.2.2.2.2.1,a.2.2.2.2.2.2.2.2.2.1,a.2.2.2.2.2.2.2.2.2.2.1,a.2.2.2.2.2.2.2.2.2.2.2.1,a.2.2.2.2.2.2.2.2.2.2.2.2)).bind λi=>cond (!i.2) (some ([],[],(-1),36)) ((L8 N (a.1,a.2.2.2.2.2.2.2.1,(a.2.2.2.2.2.2.2.2.2.1.length:Int))).bind λd=>cond (d.2!=0) (some ([],[],(-1),d.2)) ((zX N N (i.1,d.1,a.1,(a.1.length:Int),0,a.2.1,a.2.2.1)).bind λr=>match r with|.inl j=>some ([],[],j.1,j.2)|.inr l=>(SM N l.1).bind λc=>cond (c.2==0) ((SM N l.2.1).bind λm=>some (c.1,m.1,0,m.2)) (some (c.1,[],0,c.2))))))
def ahP:=(avg N).p (Yk N) (by delta Yk;rw[ax4 N N,ax6 N N];kernel_rfl)
def Yl:=(ahP N).on 131 (sg [.c (.sl iN .bD),.c (.sl iN .bD)] [tmf [.bool]])
def Pi(N:Nat):Nat->Qw->Option (Bool⊕Unit)|0,_=>none|k+1,(b,c,d,a)=>cond (a<d) ((idx b a).bind λe=>(idx c a).bind λf=>cond (!(e.1==f.1&&(e.2==f.2&&true))) (some (Sum.inl false)) (Pi N k (b,c,d,(av (a+1))))) (some (Sum.inr ()))
def avh:=(Yl N).l N 6 (tmn [(0,.c (.sl iN .bD)),(1,.c (.sl iN .bD)),(12,.I),(13,.I)]) [tmr [(4,.Q)],tmx]
theorem ax7:lpT (avh N) (Pi N):=lpI
def L9:List fA×List fA->Option Bool|(a,b)=>cond ((a.length:Int)!=(b.length:Int)) false ((Pi N N (a,b,(a.length:Int),0)).bind λc=>match c with|.inl d=>d|.inr e=>true)
def ahR:=(avh N).p (L9 N) (by delta L9;rw[ax7 N N];kernel_rfl)
def ad4:=(ahR N).on 89 ⟨[.agg (bg aW)],[tmf [.I],tmf [.I],tmf [.I]],0,[(0,13,43,.bool)],[],[],[]⟩
def Pl:Nat->List Func×Int×Int×cZ->Option ((Int×Int×Int)⊕Unit)|0,_=>none|k+1,(c,d,a,e,f,g)=>cond (a<d) ((idx c a).bind λh=>(Yk N (e,f,g,a)).bind λb=>(cond (b.2.2.2==0) ((L9 N (b.1,h.2.2.2.2.2.1)).bind λi=>cond (!i) (some true) ((L9 N (b.2.1,h.2.2.2.2.2.2)).bind λj=>some (!j))) (some false)).bind λl=>cond l (some (Sum.inl (a,(-1),32))) (cond (b.2.2.2!=0) (some (Sum.inl (a,b.2.2.1,b.2.2.2))) (Pl k (c,d,(av (a+1)),e,f,g)))) (some (Sum.inr ()))
def axM:=(ad4 N).l N 7 (tm [(1,.P 0 1 0),(15,.D dQ),(16,.I),(17,.I)] [] [(0,1,.box 0 (bg aW))] 1 [] 1) [tmr [(2,.I),(3,.I),(4,.I)],tmx]
theorem ax8:lpT (axM N) (Pl N):=lpI
def F89:cZ->Option (Int×Int×Int)|(c,d,a)=>(F97 N (c,d,a)).bind λe=>cond (e !=0) (some (0,0,e)) ((Pl N N (a,(a.length:Int),0,c,d,a)).bind λf=>match f with|.inl b=>(b.1,b.2.1,b.2.2)|.inr g=>some (0,0,0))
def G89:=(axM N).p (F89 N) (by delta F89;rw[ax8 N N];kernel_rfl)
def F50:cZ->Option Int|(a,b,c)=>(F89 N (a,b,c)).bind λd=>d.2.2
def G50:=((G89 N).on 50 (sg [.agg (cP aW)] [tmf [.I]])).p (F50 N)
def F56(N:Nat):Int×Int×Int->Option Bool|(a,b,c)=>(cond (a>=b) (some (decide (a<=c))) (some false)).bind λd=>d
def G56:=((G50 N).on 56 ⟨[.I,.I,.I],[tmf [.bool]],0,[(0,1,6,.bool)],[],[],[]⟩).p (F56 N)
def F58:Int->Option Bool|a=>(F56 N (a,0,65535)).bind λb=>some (!b)
def G58:=((G56 N).on 58 (sg [.I] [tmf [.bool]])).p (F58 N)
def ad5:=(G58 N).on 28 ⟨[.agg (cP Je)],[tmf [.I]],0,[(0,2,4,.bool)],[],[],[]⟩
def Ps:Nat->tmI×Int×Int->Option (Int⊕Unit)|0,_=>none|k+1,(b,c,a)=>cond (a<c) ((idx b a).bind λd=>(F58 N d).bind λe=>cond e (some (Sum.inl a)) (Ps k (b,c,(av (a+1))))) (some (Sum.inr ()))
def axX:=(ad5 N).L N 1036001007000 3 101 3 (tm [(0,.c (.sl .I .bD)),(1,.fK 58 []),(7,.I),(8,.I)] [[],[]] [] 3 [] 0) [(.ret,tm [(4,.I)] [[],[]] [] 3 [] 0),(.exit 0,tm [] [[],[]] [] 3 [] 0)]
theorem ay0:lpT (axX N) (Ps N):=lpI
def F28:Cm->Option Int|(a,b,c,d,e)=>((F56 N (b,1,5000)).bind λf=>cond f ((F56 N (c,0,4096)).bind λg=>cond g ((F56 N (d,0,16384)).bind λh=>cond h ((F56 N (e,1,16)).bind λi=>cond i (some (decide ((a.length:Int)<=2000))) (some false)) (some false)) (some false)) (some false)).bind λj=>cond (!j) (some 8) ((Ps N N (a,(a.length:Int),0)).bind λl=>match l with|.inl m=>cond (m>=0) (some 8) (some 0)|.inr n=>some 0)
def G28:=(axX N).p (F28 N) (by delta F28;rw[ay0 N N];kernel_rfl)
def F90(N:Nat):Int×tmI×Int->Option Int|(c,a,b)=>(cond (c !=65536) (some true) (cond ((Int.tmod (a.length:Int) 8)!=0) (some true) (some (decide ((a.length:Int)>16384))))).bind λd=>cond d (some 8) ((cond (b<0) (some true) (some (decide (b>16384)))).bind λe=>cond e (some 2) (some 0))
def G90:=((G28 N).on 90 ⟨[.agg (cP bp),.I],[tmf [.I]],0,[(0,1,20,.bool),(0,4,26,.bool)],[],[],[]⟩).p (F90 N)
def F51:Int×tmI×Int->Option (Int×Int)|(d,a,b)=>(F90 N (d,a,b)).bind λc=>cond (c !=0) (some (0,c)) (some ((max 0 (av ((av (Int.tdiv (av (b-(a.length:Int))) 8))*8))),0))
def G51:=((G90 N).on 51 (sg [.agg (cP bp),.I] [tmf [.I],tmf [.I]])).p (F51 N)
def OQ(N:Nat):Int->Option Int|a=>some (aS (16777216*(aS (av (a+1)))))
def aoS:=((G51 N).on 132 (sg [.I] [tmf [.U]])).p (OQ N)
def SN(N:Nat):Int->Option Bool|a=>(cond (a>=256) (some (decide (a<8448))) (some false)).bind λb=>b
def aoV:=((aoS N).on 133 ⟨[.U],[tmf [.bool]],0,[(0,1,2,.bool)],[],[],[]⟩).p (SN N)
def Ma(N:Nat):Int->Option Bool|a=>(cond (a==0) (some true) (cond ((Int.tmod a 8)==0) (some (decide (a>=65536))) (some false))).bind λb=>b
def aoY:=((aoV N).on 134 ⟨[.U],[tmf [.bool]],0,[(0,1,2,.bool)],[],[],[]⟩).p (Ma N)
def F91:Int×LI->Option Bool|(c,b,d,a,e,f,h)=>cond (b==3) ((OQ N c).bind λi=>some (b==3&&(d==0&&(a==i&&(e==0&&(f==0&&(h==0&&true))))))) ((OQ N c).bind λg=>((OQ N c).bind λj=>cond (a<j) (some true) (cond ((aS (a-g))<24) (some true) (cond ((aS (a-g))>4096) (some true) (some ((Int.tmod (aS (a-g)) 8)!=0))))).bind λl=>cond l false ((cond (b==2) ((SN N d).bind λm=>cond m ((Ma N e).bind λn=>cond n ((Ma N f).bind λo=>some o) (some false)) (some false)) (cond (b==1) (cond (h==0) ((SN N d).bind λp=>cond p ((Ma N e).bind λq=>cond q ((Ma N f).bind λr=>some r) (some false)) (some false)) (some false)) (some false))).bind λs=>s))
def G91:=((aoY N).on 91 ⟨[.I,.agg (bg eG)],[tmf [.bool]],0,[(0,5,36,.bool),(0,8,4,.bool)],[],[],[]⟩).p (F91 N)
def ad7:=(G91 N).on 52 ⟨[.c (.sl eG .bD)],[tmf [.I]],0,[(0,1,12,.bool)],[],[],[]⟩
def PH:Nat->List bY×Int×Int->Option (Int⊕Unit)|0,_=>none|k+1,(c,d,b)=>cond (b<d) ((idx c b).bind λa=>(F91 N (b,a.1,a.2.1,a.2.2.1,a.2.2.2.1,a.2.2.2.2.1,a.2.2.2.2.2)).bind λe=>cond (!e) (some (Sum.inl 8)) (PH k (c,d,(av (b+1))))) (some (Sum.inr ()))
def ax9:=(ad7 N).l N 6 (tmn [(13,.c (.sl eG .bD)),(14,.I),(15,.I)]) [tmr [(2,.I)],tmx]
theorem ay2:lpT (ax9 N) (PH N):=lpI
def F52:List bY->Option Int|a=>(cond ((a.length:Int)<1) (some true) (some (decide ((a.length:Int)>16)))).bind λb=>cond b (some 8) ((PH N N (a,(a.length:Int),0)).bind λc=>match c with|.inl d=>d|.inr e=>some 0)
def G52:=(ax9 N).p (F52 N) (by delta F52;rw[ay2 N N];kernel_rfl)
def F93(N:Nat):Unit->Option (Int×tmI)|()=>some (65536,[])
def G93:=((G52 N).on 93 (sg [] [(true,(bg bp))])).p (F93 N)
def SO(N:Nat):Int->Option Int|a=>some (max 8 (av ((av (Int.tdiv (av (a+7)) 8))*8)))
def ao2:=((G93 N).on 204 (sg [.I] [tmf [.I]])).p (SO N)
def abT(N:Nat):Int->Option Bool|a=>(cond (a>=8) (cond (a<=1099511627776) (some ((Int.tmod a 8)==0)) (some false)) (some false)).bind λb=>b
def ao5:=((ao2 N).on 302 ⟨[.U],[tmf [.bool]],0,[(0,1,2,.bool)],[],[],[]⟩).p (abT N)
def OR:Int×tmI->Option Int|(a,b)=>((abT N a).bind λc=>cond (!c) (some true) (some (decide ((b.length:Int)>20000)))).bind λd=>cond d (some 8) (some 0)
def ao8:=((ao5 N).on 215 ⟨[.agg (cP bp)],[tmf [.I]],0,[(0,1,12,.bool)],[],[],[]⟩).p (OR N)
def Ym:Int×tmI×Int->Option (Int×tmI×Int)|(b,c,a)=>(OR N (b,c)).bind λd=>cond (d !=0) (some (0,[],d)) ((cond (a<0) (some true) (some (decide (a>20000)))).bind λe=>cond e (some (0,[],2)) (aK (decide (0<=a)) (aK (decide (0<=a)) (aK (decide (a.toNat<=a.toNat)&&room a.toNat 1) (some (b,(Dl c (List.replicate a.toNat (0:Int))),0))))))
def apb:=((ao8 N).on 205 ⟨[.agg (cP bp),.I],[(true,(bg bp)),tmf [.I]],2,[(0,5,19,.bool)],[],[(0,22,.B)],[]⟩).p (Ym N)
def Yn:Int×tmI×Int×Int->Option (Int×tmI×Int×Int)|(c,a,b,f)=>(F51 N (c,a,f)).bind λd=>cond (d.2!=0) (some (0,[],0,d.2)) ((cond (b<0) (some true) (some (decide (b>4096)))).bind λg=>cond g (some (0,[],0,2)) ((SO N b).bind λh=>cond (h>d.1) (some (0,[],0,18)) ((SO N b).bind λi=>(Ym N (c,a,(av ((a.length:Int)+i)))).bind λe=>some (e.1,e.2.1,(aS (c+(aS (a.length:Int)))),e.2.2))))
def ape:=((apb N).on 135 ⟨[.agg (cP bp),.I,.I],[(true,(bg bp)),tmf [.U],tmf [.I]],2,[(0,5,27,.bool)],[],[],[]⟩).p (Yn N)
def OS(N:Nat):Int×tmI×Int×Int->Option (Int×Bool)|(a,c,b,d)=>(cond (b<a) (some true) (some (decide ((aS (b-a))>(aS (c.length:Int)))))).bind λe=>cond e (some (0,false)) (some ((av (aS (b-a))),(decide (d<=(av ((c.length:Int)-(av (aS (b-a)))))))))
def aph:=((ape N).on 206 ⟨[.agg (cP bp),.U,.I],[tmf [.I],tmf [.bool]],0,[(0,1,23,.bool)],[],[],[]⟩).p (OS N)
def SP:Int×tmI×Int×Int->Option (Bool×Int)|(a,b,e,c)=>(OR N (a,b)).bind λd=>cond (d !=0) (false,d) (cond (c<0) (some (false,2)) ((OS N (a,b,e,c)).bind λf=>some (f.2,0)))
def apk:=((aph N).on 140 (sg [.agg (cP bp),.U,.I] [tmf [.bool],tmf [.I]])).p (SP N)
def Yo:Int×tmI×Int×tmI->Option (Int×tmI×Int)|(d,a,f,c)=>(SP N (d,a,f,(c.length:Int))).bind λe=>cond (e.2!=0) (some (0,[],e.2)) (cond (!e.1) (some (0,[],16)) ((OS N (d,a,f,(c.length:Int))).bind λb=>aK (room a.length 1) (aK (decide (0<=b.1)) (aK (decide (b.1.toNat<=a.length)) (aK (decide (b.1.toNat+(a.length-b.1.toNat)<=a.length)) (some (d,(a.take b.1.toNat++(c.take (min c.length (a.length-b.1.toNat))++a.drop (b.1.toNat+(c.take (min c.length (a.length-b.1.toNat))).length))),0)))))))
def apn:=((apk N).on 136 (sg [.agg (cP bp),.U,.c (.sl .B .bD)] [(true,(bg bp)),tmf [.I]])).p (Yo N)
def F94:Int×tmI×tmI×Int->Option (Int×tmI×Int×Int)|(d,e,c,f)=>(Yn N (d,e,(c.length:Int),f)).bind λa=>cond (a.2.2.2!=0) (some (0,[],0,a.2.2.2)) ((Yo N (a.1,a.2.1,a.2.2.1,c)).bind λb=>(b.1,b.2.1,a.2.2.1,b.2.2))
def G94:=((apn N).on 94 (sg [.agg (cP bp),.c (.sl .B .bD),.I] [(true,(bg bp)),tmf [.U],tmf [.I]])).p (F94 N)
def ad8:=(G94 N).on 53 ⟨[.c (.sl .str .bD),.I],[(true,(bg bp)),tmf [.D .U],tmf [.I]],0,[],[],[(0,61,.U)],[]⟩
def PP(N:Nat):Nat->List (List UInt8)×Int×List (List UInt8)×Int×Int×Int×tmI×Int->Option ((Int×tmI×Int)⊕(List (List UInt8)×Int×Int×tmI×Int))|0,_=>none|k+1,(d,e,f,g,a,b,c,h)=>cond (a<g) ((idx f a).bind λi=>cond ((i.length:Int)>64) (some (Sum.inl (b,c,2))) (PP N k (d,e,f,g,(av (a+1)),b,c,h))) (some (Sum.inr (d,e,b,c,h)))
def ad9:=(ad8 N).l N 13 (tm [(0,.c (.sl .str .bD)),(1,.I),(4,.P 0 4 0),(5,.P 0 5 1),(6,.P 0 6 2),(12,.fK 92 [.P 0 6 2,.P 0 4 0,.P 0 5 1]),(27,.c (.sl .str .bD)),(28,.I),(29,.I)] [] [(0,4,.box 0 (bg bp)),(0,5,.box 1 [.nil true]),(0,6,.box 2 [.I])] 1 [] 3) [(.exit 1099511627776,tm [(4,.P 0 4 0),(5,.P 0 5 1),(6,.P 0 6 2),(12,.fK 92 [.P 0 6 2,.P 0 4 0,.P 0 5 1])] [] [(0,4,.box 0 (bg bp)),(0,5,.box 1 [.nil true]),(0,6,.box 2 [.I])] 1 [] 3),(.exit 0,tm [(0,.c (.sl .str .bD)),(1,.I),(4,.P 0 4 0),(5,.P 0 5 1),(6,.P 0 6 2),(12,.fK 92 [.P 0 6 2,.P 0 4 0,.P 0 5 1])] [] [(0,4,.box 0 (bg bp)),(0,5,.box 1 [.nil true]),(0,6,.box 2 [.I])] 1 [] 3)]
theorem ay4:lpT (ad9 N) (PP N):=lpI
def pQ:Nat->Int×List (List UInt8)×Int×Int×Int×tmI×tmI×Int->Option ((Int×tmI×tmI×Int)⊕(Int×tmI×tmI×Int))|0,_=>none|k+1,(d,e,f,c,g,h,b,i)=>cond (c<f) ((idx e c).bind λj=>(F94 N (g,h,(bP j),d)).bind λa=>cond (a.2.2.2!=0) (some (Sum.inl (a.1,a.2.1,b,a.2.2.2))) (aK (room (b.length+1) 8) (pQ k (d,e,f,(av (c+1)),a.1,a.2.1,(b++[a.2.2.1]),a.2.2.2)))) (some (Sum.inr (g,h,b,i)))
def ayh:=(ad9 N).l N 24 (tm [(1,.I),(4,.P 0 4 0),(5,.P 0 5 1),(6,.P 0 6 2),(12,.fK 92 [.P 0 6 2,.P 0 4 0,.P 0 5 1]),(39,.c (.sl .str .bD)),(40,.I),(41,.I)] [] [(0,4,.box 0 (bg bp)),(0,5,.box 1 [.A .U 3]),(0,6,.box 2 [.I])] 1 [3] 4) [(.exit 1099511627776,tm [(4,.P 0 4 0),(5,.P 0 5 1),(6,.P 0 6 2),(12,.fK 92 [.P 0 6 2,.P 0 4 0,.P 0 5 1])] [] [(0,4,.box 0 (bg bp)),(0,5,.box 1 [.A .U 3]),(0,6,.box 2 [.I])] 1 [3] 4),(.exit 2,tm [(4,.P 0 4 0),(5,.P 0 5 1),(6,.P 0 6 2),(12,.fK 92 [.P 0 6 2,.P 0 4 0,.P 0 5 1])] [] [(0,4,.box 0 (bg bp)),(0,5,.box 1 [.A .U 3]),(0,6,.box 2 [.I])] 1 [3] 4)]
theorem ay5:lpT (ayh N) (pQ N):=lpI
def F53:List (List UInt8)×Int->Option (Int×tmI×tmI×Int)|(f,h)=>(F93 N ()).bind λa=>(F90 N (a.1,a.2,h)).bind λd=>cond (d !=0) (cond (d !=0) (some (0,[],[],d)) (some (a.1,a.2,[],d))) (cond ((f.length:Int)>32) (some (0,[],[],4)) ((PP N N (f,h,f,(f.length:Int),0,a.1,a.2,d)).bind λi=>match i with|.inl e=>cond (e.2.2!=0) (some (0,[],[],e.2.2)) (some (e.1,e.2.1,[],e.2.2))|.inr b=>(pQ N N (b.2.1,b.1,(b.1.length:Int),0,b.2.2.1,b.2.2.2.1,[],b.2.2.2.2)).bind λj=>match j with|.inl c=>cond (c.2.2.2!=0) (some (0,[],[],c.2.2.2)) (c.1,c.2.1,c.2.2.1,c.2.2.2)|.inr g=>some (g.1,g.2.1,g.2.2.1,0)))
def G53:=(ayh N).p (F53 N) (by delta F53;rw[ay4 N N,ay5 N N];kernel_rfl)
def F95(N:Nat):tmI×tmI->Option Bool|(a,b)=>some ((a.map λ(n:Int)=>UInt8.ofNat n.toNat)==(b.map λ(n:Int)=>UInt8.ofNat n.toNat))
def G95:=((G53 N).on 95 (sg [.c (.sl .B .bD),.c (.sl .B .bD)] [tmf [.bool]])).p (F95 N)
def F54:tmI×tmI->Option Bool|(b,a)=>(cond ((b.length:Int)>=(a.length:Int)) (aK (decide (0<=(a.length:Int))) (aK (decide ((Int.toNat (a.length:Int))<=b.length)) ((F95 N ((b.take (Int.toNat (a.length:Int))),a)).bind λc=>some c))) (some false)).bind λd=>d
def G54:=((G95 N).on 54 ⟨[.c (.sl .B .bD),.c (.sl .B .bD)],[tmf [.bool]],0,[(0,1,4,.bool)],[],[],[]⟩).p (F54 N)
def F96(N:Nat):Int×tmI->Option Int|(a,b)=>(cond ((Int.tmod a 16777216)!=0) (some true) (cond ((aS (Int.tdiv a 16777216))<1) (some true) (cond ((aS (Int.tdiv a 16777216))>16) (some true) (cond ((Int.tmod (b.length:Int) 8)!=0) (some true) (some (decide ((b.length:Int)>4096))))))).bind λc=>cond c (some 8) (some 0)
def G96:=((G54 N).on 96 ⟨[.agg (cP bp)],[tmf [.I]],0,[(0,2,31,.bool)],[],[],[]⟩).p (F96 N)
def F98:bT Int->Option (Int×Int×Int)|(d,e,b,a)=>(F97 N (d,e,b)).bind λc=>cond (c !=0) (some (0,0,c)) ((cond ((Int.fdiv a 256)==0) (some true) (cond ((Int.fdiv a 256)>(aS (b.length:Int))) (some true) ((idx b (aS ((Int.fdiv a 256)-1))).bind λf=>some (decide ((av (vI .u64 a 255))>=(f.2.2.2.2.1.length:Int)))))).bind λg=>cond g (some (0,0,6)) (some ((av ((av (Int.fdiv a 256))-1)),(av (vI .u64 a 255)),0)))
def G98:=((G96 N).on 98 ⟨[.agg (cP aW),.U],[tmf [.I],tmf [.I],tmf [.I]],0,[(0,6,40,.bool)],[],[],[]⟩).p (F98 N)
def Yr:=(G98 N).on 143 ⟨[.c (.sl bK .bD),.c (.sl dh .bD)],[tmf [.D .I],tmf [.I],tmf [.I],tmf [.I]],0,[(0,16,40,.bool)],[],[],[]⟩
def D1(N:Nat):Nat->List aB×List Field×List pK×List Field×Int×Int->Option ((Int×Int×Int)⊕(List Field×List pK))|0,_=>none|k+1,(b,c,d,e,f,a)=>cond (a<f) ((idx e a).bind λg=>(cond (g.2<0) (some true) (some (decide (g.2>=b.length)))).bind λh=>cond h (some (Sum.inl (0,0,2))) (D1 N k (b,c,d,e,f,(av (a+1))))) (some (Sum.inr (c,d)))
def Ys:=(Yr N).l N 11 (tmn [(0,.c (.sl bK .bD)),(1,.c (.sl dh .bD)),(9,.D fo),(25,.c (.sl dh .bD)),(26,.I),(27,.I)]) [tmr [(4,.N),(5,.I),(6,.I),(7,.I)],(.exit 0,tmn [(1,.c (.sl dh .bD)),(9,.D fo)])]
theorem ay6:lpT (Ys N) (D1 N):=lpI
def D2(N:Nat):Nat->List Field×List pK×List Field×Int×Int->Option ((Int×Int×Int)⊕(List Field×List pK))|0,_=>none|k+1,(c,a,d,e,b)=>cond (b<e) ((idx d b).bind λf=>(idx a f.2).bind λg=>cond (g.1>256) (some (Sum.inl (0,0,16))) (D2 N k (c,a,d,e,(av (b+1))))) (some (Sum.inr (c,a)))
def avq:=(Ys N).l N 22 (tmn [(1,.c (.sl dh .bD)),(9,.D fo),(42,.c (.sl dh .bD)),(43,.I),(44,.I)]) [tmr [(4,.N),(5,.I),(6,.I),(7,.I)],(.exit 2,tmn [(1,.c (.sl dh .bD)),(9,.D fo)])]
theorem ay7:lpT (avq N) (D2 N):=lpI
def Yv:List aB×List Field->Option (tmI×Int×Int×Int)|(c,a)=>(OK N c).bind λg=>cond (g !=0) (some ([],0,0,g)) (cond ((a.length:Int)>16) (some ([],0,0,4)) ((SD N c).bind λi=>(D1 N N (c,a,i,a,(a.length:Int),0)).bind λj=>match j with|.inl d=>some ([],d.1,d.2.1,d.2.2)|.inr b=>(D2 N N (b.1,b.2,b.1,(b.1.length:Int),0)).bind λl=>match l with|.inl e=>some ([],e.1,e.2.1,e.2.2)|.inr h=>(OL N (h.2,h.1)).bind λf=>some (f.1,f.2.1,f.2.2,0)))
def aps:=(avq N).p (Yv N) (by delta Yv;rw[ay6 N N,ay7 N N];kernel_rfl)
def Yw:bT Int->Option (tmI×Int)|(b,g,c,d)=>(idx c d).bind λe=>(Yv N (b,e.2.2.2.1)).bind λa=>(L7 N a.2.1).bind λf=>(a.1,f.1)
def ahU:=((aps N).on 138 (sg [.agg (cP aW),.I] [tmf [.D .I],tmf [.I]])).p (Yw N)
def Yx:=(ahU N).on 139 ⟨[.c (.sl iN .bD),.I,.I],[tmf [.U],tmf [.I]],0,[(0,5,22,.bool)],[],[],[]⟩
def D3(N:Nat):Nat->Int×Int×List fA×Int->Option (Int×List fA)|0,_=>none|k+1,(a,b,c,d)=>cond (a<b) ((idx c (av (Int.fdiv (aS (av (a+b))) 2))).bind λe=>cond (!(decide (e.1>d))) (D3 N k ((av ((av (Int.fdiv (aS (av (a+b))) 2))+1)),b,c,d)) (D3 N k (a,(av (Int.fdiv (aS (av (a+b))) 2)),c,d))) (a,c)
def avr:=(Yx N).L N 1026000 3 213 3 (tm [(1,.fK 214 [.P 0 3 0,.P 0 5 1]),(5,.I),(6,.I)] [[(3,.P 0 3 0)]] [(0,3,.box 0 [.sl iN .bD]),(0,5,.box 1 [.I])] 2 [] 2) [(.exit 0,tm [(5,.I)] [[(3,.P 0 3 0)]] [(0,3,.box 0 [.sl iN .bD])] 2 [] 1)]
theorem ay9:lpT (avr N) (D3 N):=lpI
def Yy:List fA×Int×Int->Option (Int×Int)|(a,c,b)=>(L4 N (a,c)).bind λd=>cond (d !=0) (some (0,d)) ((cond (b<0) (some true) (some (decide (b>=c)))).bind λf=>cond f (some (0,2)) ((D3 N N (0,(a.length:Int),a,b)).bind λe=>(idx e.2 (av (e.1-1))).bind λg=>some (g.2,0)))
def apw:=(avr N).p (Yy N) (by delta Yy;rw[ay9 N N];kernel_rfl)
def F99:bT Int->Option (Int×Int)|(d,e,b,g)=>(F98 N (d,e,b,g)).bind λa=>cond (a.2.2!=0) (some (0,a.2.2)) ((Yw N (d,e,b,a.1)).bind λf=>(idx b a.1).bind λh=>(idx b a.1).bind λi=>(Yy N (h.2.2.2.2.2.1,(i.2.2.2.2.1.length:Int),a.2.1)).bind λc=>(cond (c.1>4096) (some true) (some (decide ((av ((av (24+f.2))+(av c.1)))>4096)))).bind λj=>cond j (some (0,16)) (some ((av ((av (24+f.2))+(av c.1))),0)))
def G99:=((apw N).on 99 ⟨[.agg (cP aW),.U],[tmf [.I],tmf [.I]],0,[(0,7,56,.bool)],[],[],[]⟩).p (F99 N)
def abU:Int×tmI×Int×Int->Option (Int×Int)|(b,c,f,a)=>(OR N (b,c)).bind λd=>cond (d !=0) (some (0,d)) ((cond (a !=1) (some (a !=8)) (some false)).bind λg=>cond g (some (0,2)) ((OS N (b,c,f,a)).bind λe=>cond (!e.2) (some (0,16)) (some (e.1,0))))
def ahW:=((G99 N).on 216 ⟨[.agg (cP bp),.U,.I],[tmf [.I],tmf [.I]],0,[(0,5,21,.bool)],[],[],[]⟩).p (abU N)
def Yz:=(ahW N).on 141 (sg [.agg (cP bp),.U,.I] [tmf [.U],tmf [.I]])
def jg(N:Nat):Nat->Int×Int×Int×Int×tmI->Option Int|0,_=>none|k+1,(b,c,a,e,d)=>cond (a>=0) ((idx d (av (b+a))).bind λf=>jg N k (b,(DW .u64 (aS (c*256)) (aS f)),(av (a-1)),e,d)) c
def avs:=(Yz N).l N 8 (tm [(3,.P 0 3 0),(8,.I),(10,.U),(11,.I)] [] [(0,3,.box 0 (cP bp))] 1 [] 1) [(.exit 0,tmn [(10,.U)])]
theorem az0:lpT (avs N) (jg N):=lpI
def OT:Int×tmI×Int×Int->Option (Int×Int)|(b,c,e,d)=>(abU N (b,c,e,d)).bind λa=>cond (a.2!=0) (some (0,a.2)) ((jg N N (a.1,0,(av (d-1)),b,c)).bind λf=>some (f,0))
def apB:=(avs N).p (OT N) (by delta OT;rw[az0 N N];kernel_rfl)
def YA(N:Nat):Int×Int->Option Bool|(a,b)=>(cond (a<=3) (some ((b !=0)==(decide (a>=2)))) (some false)).bind λc=>c
def apE:=((apB N).on 142 ⟨[.U,.U],[tmf [.bool]],0,[(0,1,4,.bool)],[],[],[]⟩).p (YA N)
def YB:Int×tmI×Int->Option (Int×Int×Int×Int)|(a,b,c)=>(F96 N (a,b)).bind λd=>cond (d !=0) (some (0,0,0,d)) ((SP N (a,b,c,24)).bind λg=>(cond (!g.1) (some true) (some ((Int.tmod c 8)!=0))).bind λh=>cond h (some (0,0,0,16)) ((OT N (a,b,c,8)).bind λi=>(OT N (a,b,(aS (c+8)),8)).bind λe=>(OT N (a,b,(aS (c+16)),8)).bind λf=>(YA N (e.1,f.1)).bind λj=>cond (!j) (some (0,0,0,12)) (some (i.1,e.1,f.1,0))))
def ahY:=((apE N).on 100 ⟨[.agg (cP bp),.U],[tmf [.U],tmf [.U],tmf [.U],tmf [.I]],0,[(0,6,28,.bool)],[],[],[]⟩).p (YB N)
def aec:=(ahY N).on 55 ⟨[.agg (cP bp),.agg (cP aW),.U],[tmf [.D Bq],tmf [.I]],0,[(0,19,58,.bool),(0,25,96,.bool),(0,33,11,.I)],[],[(0,106,Bq)],[]⟩
def PQ:Nat->Int×Int×Int×List LH×Int×tmI×cZ->Option (List LH×Int)|0,_=>none|k+1,(j,c,l,f,e,m,g,h,i)=>(F98 N (g,h,i,j)).bind λd=>cond (d.2.2!=0) (some ([],d.2.2)) ((F99 N (g,h,i,j)).bind λb=>(cond (b.2!=0) (some true) (some (decide ((aS b.1)>c)))).bind λn=>cond n (some ([],16)) ((YB N (e,m,(aS (e+(aS (c-(aS b.1))))))).bind λa=>(cond (a.2.2.2!=0) (some true) (cond (!((a.1==0)==((aS (c-(aS b.1)))==0))) (some true) (cond (a.2.1==0) (cond (a.1!=0) (some ((Int.tmod a.1 256)==0)) (some false)) (some false)))).bind λo=>cond o (some ([],12)) (aK (room (f.length+1) 40) (cond (a.1!=0) ((cond (a.2.1==0) (some 1) (some 0)).bind λp=>PQ k (a.1,(aS (c-(aS b.1))),p,(f++[((aS (e+(aS (c-(aS b.1))))),d.1,(av (d.2.1-l)),a.2.1,a.2.2.1)]),e,m,g,h,i)) (some ((f++[((aS (e+(aS (c-(aS b.1))))),d.1,(av (d.2.1-l)),a.2.1,a.2.2.1)]),0))))))
def ayy:=(aec N).l N 12 (tm [(2,.U),(3,.P 0 3 0),(4,.P 0 4 1),(10,.U),(11,.I),(12,.A Bq 2)] [] [(0,3,.box 0 (cP bp)),(0,4,.box 1 (cP aW))] 1 [2] 3) [(.ret,tmv [(6,.A Bq 0),(7,.I)] 0 1)]
theorem az2:lpT (ayy N) (PQ N):=lpI
def F55:Int×tmI×bT Int->Option (List LH×Int)|(b,a,c,d,e,i)=>(F96 N (b,a)).bind λf=>cond (f !=0) (some ([],f)) ((F97 N (c,d,e)).bind λg=>cond (g !=0) (some ([],g)) ((PQ N N (i,(aS (a.length:Int)),0,[],b,a,c,d,e)).bind λh=>(h.1,h.2)))
def G55:=(ayy N).p (F55 N) (by delta F55;rw[az2 N N];kernel_rfl)
def aed:=(G55 N).on 25 ⟨[.agg (cP eZ)],[tmf [.I]],0,[(0,5,54,.bool),(0,8,76,.bool),(0,12,98,.bool),(0,23,146,.bool)],[],[],[]⟩
def pR:Nat->List Region×Int×Int×kE->Option (Int⊕Unit)|0,_=>none|k+1,(c,d,b,e,f,g,l,h,m,n,o,p,q,i,r)=>cond (b<d) ((idx c b).bind λa=>(idx i b).bind λj=>(cond (a.1!=(aS (16777216*(aS (av (b+1)))))) (some true) (cond ((aS (a.1+(aS (a.2.length:Int))))!=j.2.2.1) (some true) (cond ((a.2.length:Int)>h) (some true) (some ((Int.tmod (a.2.length:Int) 8)!=0))))).bind λs=>cond s (some (Sum.inl 8)) (cond (j.1==3) (pR k (c,d,(av (b+1)),e,f,g,l,h,m,n,o,p,q,i,r)) ((F55 N (a.1,a.2,e,f,g,j.2.1)).bind λt=>cond (t.2!=0) (some (Sum.inl 8)) (pR k (c,d,(av (b+1)),e,f,g,l,h,m,n,o,p,q,i,r))))) (some (Sum.inr ()))
def ayA:=(aed N).l N 17 (tm [(1,.P 0 1 0),(100,.c (.sl bp .bD)),(101,.I),(102,.I)] [] [(0,1,.box 0 (cP eZ))] 1 [] 1) [tmr [(2,.I)],tmx]
theorem az3:lpT (ayA N) (pR N):=lpI
def SQ:kE->Option Int|(i,e,j,f,l,a,g,m,b,c,d,h)=>(F50 N (i,e,j)).bind λo=>cond (o !=0) (some 8) ((F28 N ([],f,l,a,g)).bind λp=>cond (p !=0) (some 8) (cond (h<0) (some 8) (cond (h>f) (some 8) ((F51 N (m,b,0)).bind λq=>(cond (q.2!=0) (some true) (some (decide ((b.length:Int)>a)))).bind λr=>cond r (some 8) (((F52 N d).bind λs=>cond (s !=0) (some true) (cond ((d.length:Int)>g) (some true) (some ((c.length:Int)!=(d.length:Int))))).bind λt=>cond t (some 8) ((F53 N (e,a)).bind λn=>(cond (n.2.2.2!=0) (some true) ((F54 N (b,n.2.1)).bind λu=>some (!u))).bind λv=>cond v (some 8) ((pR N N (c,(c.length:Int),0,i,e,j,f,l,a,g,m,b,c,d,h)).bind λw=>match w with|.inl x=>x|.inr y=>some 0)))))))
def G25:=(ayA N).p (SQ N) (by delta SQ;rw[az3 N N];kernel_rfl)
def aee:=(G25 N).on 27 ⟨[.c (.sl eG .bD)],[tmf [.D .I],tmf [.I]],0,[],[],[(0,25,.I)],[]⟩
def D4(N:Nat):Nat->tmI×List bY×Int×Int->Option tmI|0,_=>none|k+1,(b,c,d,a)=>cond (a<d) ((idx c a).bind λe=>cond (e.1==1) (aK (room (b.length+1) 8) (D4 N k ((b++[a]),c,d,(av (a+1))))) (D4 N k (b,c,d,(av (a+1))))) b
def ayC:=(aee N).l N 8 (tmv [(5,.A .I 0),(13,.c (.sl eG .bD)),(14,.I),(15,.I)] 0 1) [(.exit 0,tmv [(5,.A .I 0)] 0 1)]
theorem az4:lpT (ayC N) (D4 N):=lpI
def F27:List bY->Option (tmI×Int)|a=>(F52 N a).bind λb=>cond (b !=0) (some ([],b)) ((D4 N N ([],a,(a.length:Int),0)).bind λc=>some (c,0))
def G27:=(ayC N).p (F27 N) (by delta F27;rw[az4 N N];kernel_rfl)
def F26:kE->Option Int|(e,f,g,a,h,i,j,l,m,n,b,c)=>(F27 N b).bind λd=>cond ((d.1.length:Int)==0) (some 3) (cond (c==a) (some 7) (some 0))
def G26:=((G27 N).on 26 (sg [.agg (cP eZ)] [tmf [.B]])).p (F26 N)
def F9:rF Int->Option (Int×Int)|(e,f,g,h,i,j,l,m,n,o,c,p,b)=>(SQ N (e,f,g,h,i,j,l,m,n,o,c,p)).bind λd=>cond (d !=0) (some (0,d)) ((cond (b<0) (some true) (some (decide (b>65535)))).bind λq=>cond q (some (0,2)) ((F27 N c).bind λa=>cond ((a.1.length:Int)==0) (some (0,6)) (aK (!((a.1.length:Int)=0)) ((idx a.1 (Int.tmod b (a.1.length:Int))).bind λr=>some (r,0)))))
def G9:=((G26 N).on 9 ⟨[.agg (cP eZ),.I],[tmf [.I],tmf [.I]],0,[(0,5,19,.bool)],[],[],[]⟩).p (F9 N)
def aef:=(G9 N).on 10 ⟨[.agg (bg eZ),.I],[(true,(bg eZ)),tmf [.B],tmf [.I],tmf [.I]],0,[],[],[(0,25,.I)],[]⟩
def P1(N:Nat):Nat->Int×Int×Int×bT (vz (Int×tmI×List bY×Int×List Region×vz (Int×Int)))->Option (Int×bT (vz (Int×tmI×List bY×Int×List Region×vz (Int×Int))))|0,_=>none|k+1,(c,d,a,e,f,g,h,i,j,l,m,n,o,p,b,q,r,s,t,u,v)=>cond (a<d) (aK (gB a b.length) ((b[a.toNat]?).bind λw=>aK (room w.2.length 1) (aK (gB a b.length) ((b[a.toNat]?).bind λx=>P1 N k (c,d,(av (a+1)),e,f,g,h,i,j,l,m,n,o,p,(b.set a.toNat (x.1,w.2)),q,r,s,t,u,v))))) (c,e,f,g,h,i,j,l,m,n,o,p,b,q,r,s,t,u,v)
def ayI:=(aef N).l N 15 (tm [(2,.P 0 2 0),(4,.P 0 4 1),(9,.B),(46,.I),(47,.I)] [] [(0,2,.box 0 [.D bK,.D .str,.D dQ,.I,.I,.I,.I,.U,.A .B 2,.ref 0 42 3 bp,.D eG,.I]),(0,42,.row 3 bp),(0,4,.box 1 [.nil true,.nil true,.nil true,.I,.I,.I,.I,.U,.nil true,.nil true,.nil true,.I])] 1 [2] 4) [(.exit 0,tm [(2,.P 0 2 0),(4,.P 0 4 1),(9,.B)] [] [(0,2,.box 0 [.D bK,.D .str,.D dQ,.I,.I,.I,.I,.U,.A .B 2,.ref 0 42 3 bp,.D eG,.I]),(0,42,.row 3 bp),(0,4,.box 1 [.nil true,.nil true,.nil true,.I,.I,.I,.I,.U,.nil true,.nil true,.nil true,.I])] 1 [2] 4)]
theorem az5:lpT (ayI N) (P1 N):=lpI
def F10:rF Int->Option (rF (Int×Int×Int))|(h,i,j,c,d,e,f,l,g,b,m,n,o)=>(SQ N (h,i,j,c,d,e,f,l,g,b,m,n)).bind λp=>cond (p !=0) (some ([],[],[],0,0,0,0,0,[],[],[],0,0,0,p)) ((F28 N ([o],c,d,e,f)).bind λr=>cond (r !=0) (some ([],[],[],0,0,0,0,0,[],[],[],0,0,0,2)) ((F26 N (h,i,j,c,d,e,f,l,g,b,m,n)).bind λq=>cond (q !=0) (aK (room g.length 1) (aK (room b.length 32) ((P1 N N (q,(b.length:Int),0,h,i,j,c,d,e,f,l,g,m,n,b,0,0,0,0,0,0)).bind λa=>aK (room a.2.2.2.2.2.2.2.2.2.2.1.length 48) (some (a.2.1,a.2.2.1,a.2.2.2.1,a.2.2.2.2.1,a.2.2.2.2.2.1,a.2.2.2.2.2.2.1,a.2.2.2.2.2.2.2.1,a.2.2.2.2.2.2.2.2.1,a.2.2.2.2.2.2.2.2.2.1,a.2.2.2.2.2.2.2.2.2.2.2.2.1,a.2.2.2.2.2.2.2.2.2.2.1,a.2.2.2.2.2.2.2.2.2.2.2.1,a.1,(-1),0))))) ((F9 N (h,i,j,c,d,e,f,l,g,b,m,n,o)).bind λs=>none)))
def G10:=(ayI N).p (F10 N) (by delta F10;rw[az5 N N];kernel_rfl)
def F81(N:Nat):Cl->Option Bool|(a,b,c,d)=>(cond (a>=1) (cond (a<=5000) (cond (b>=0) (cond (b<=4096) (cond (c>=0) (cond (c<=16384) (cond (d>=1) (some (decide (d<=16))) (some false)) (some false)) (some false)) (some false)) (some false)) (some false)) (some false)).bind λe=>e
def G81:=((G10 N).on 81 ⟨[.agg (bg Ck)],[tmf [.bool]],0,[(0,1,2,.bool)],[],[],[]⟩).p (F81 N)
def aeg:=(G81 N).on 43 ⟨[.agg (cP Je)],[tmf [.I]],0,[(0,1,13,.bool),(0,10,34,.bool)],[],[],[]⟩
def Wj(N:Nat):Nat->Int×Cm->Option (Int⊕Unit)|0,_=>none|k+1,(a,b,c,d,e,f)=>cond (a<b.length) (((idx b a).bind λg=>cond (g<0) (some true) ((idx b a).bind λh=>some (decide (h>65535)))).bind λi=>cond i (some (Sum.inl 8)) (Wj N k ((av (a+1)),b,c,d,e,f))) (some (Sum.inr ()))
def ayN:=(aeg N).l N 6 (tm [(1,.P 0 1 0),(3,.I)] [] [(0,1,.box 0 (cP Je))] 1 [] 1) [tmr [(2,.I)],tmx]
theorem az6:lpT (ayN N) (Wj N):=lpI
def F43:Cm->Option Int|(a,b,c,d,e)=>(cond ((a.length:Int)>2000) (some true) ((F81 N (b,c,d,e)).bind λf=>some (!f))).bind λg=>cond g (some 8) ((Wj N N (0,a,b,c,d,e)).bind λh=>match h with|.inl i=>i|.inr j=>some 0)
def G43:=(ayN N).p (F43 N) (by delta F43;rw[az6 N N];kernel_rfl)
def F18:Cl->Option Bool|(a,b,c,d)=>(F43 N ([],a,b,c,d)).bind λe=>some (e==0)
def G18:=((G43 N).on 18 (sg [.agg (bg Ck)] [tmf [.bool]])).p (F18 N)
def F82(N:Nat):Int->Option Bool|a=>(cond ((aS (Int.tdiv a 256))>=1) (some (decide ((aS (Int.tdiv a 256))<=32))) (some false)).bind λb=>b
def G82:=((G18 N).on 82 ⟨[.U],[tmf [.bool]],0,[(0,1,2,.bool)],[],[],[]⟩).p (F82 N)
def F83(N:Nat):Int->Option Bool|a=>(cond (a==0) (some true) (cond (a>=65536) (some ((Int.tmod a 8)==0)) (some false))).bind λb=>b
def G83:=((G82 N).on 83 ⟨[.U],[tmf [.bool]],0,[(0,1,2,.bool)],[],[],[]⟩).p (F83 N)
def F44:Int×LI->Option Bool|(d,b,e,f,g,h,c)=>(cond (b==1) (cond (c !=0) (some (Sum.inl false)) (some (Sum.inr (d,b,e,f,g,h,c)))) (cond (b==2) (some (Sum.inr (d,b,e,f,g,h,c))) (cond (b==3) ((cond (e==0) ((F22 N d).bind λi=>cond (f==i) (cond (g==0) (cond (h==0) (some (c==0)) (some false)) (some false)) (some false)) (some false)).bind λj=>some (Sum.inl j)) (some (Sum.inl false))))).bind λl=>match l with|.inl m=>m|.inr a=>((F82 N a.2.2.1).bind λn=>cond n ((F22 N a.1).bind λo=>cond (a.2.2.2.1>=(aS (o+24))) ((F22 N a.1).bind λp=>cond (a.2.2.2.1<=(aS (p+4096))) (cond ((Int.tmod a.2.2.2.1 8)==0) ((F83 N a.2.2.2.2.1).bind λq=>cond q ((F83 N a.2.2.2.2.2.1).bind λr=>some r) (some false)) (some false)) (some false)) (some false)) (some false)).bind λs=>s
def G44:=((G83 N).on 44 ⟨[.I,.agg (bg eG)],[tmf [.bool]],0,[(0,12,4,.bool),(0,14,4,.bool)],[],[],[(0,2,[tmr [(4,.Q)],(.normal,tm [(0,.I),(3,.P 0 3 0)] [] [(0,3,.box 0 (bg eG))] 1 [] 1)])]⟩).p (F44 N)
def aeh:=(G44 N).on 20 ⟨[.c (.sl eG .bD)],[tmf [.I]],0,[(0,1,11,.bool)],[],[],[]⟩
def P2:Nat->List bY×Int->Option (Int⊕Unit)|0,_=>none|k+1,(c,b)=>cond (b<c.length) ((idx c b).bind λa=>(F44 N (b,a.1,a.2.1,a.2.2.1,a.2.2.2.1,a.2.2.2.2.1,a.2.2.2.2.2)).bind λd=>cond (!d) (some (Sum.inl 8)) (P2 k (c,(av (b+1))))) (some (Sum.inr ()))
def ay1:=(aeh N).l N 6 (tmn [(0,.c (.sl eG .bD)),(3,.I)]) [tmr [(2,.I)],tmx]
theorem az7:lpT (ay1 N) (P2 N):=lpI
def F20:List bY->Option Int|a=>(cond ((a.length:Int)==0) (some true) (some (decide ((a.length:Int)>16)))).bind λb=>cond b (some 8) ((P2 N N (a,0)).bind λc=>match c with|.inl d=>d|.inr e=>some 0)
def G20:=(ay1 N).p (F20 N) (by delta F20;rw[az7 N N];kernel_rfl)
def aei:=(G20 N).on 23 ⟨[.agg (cP bp)],[tmf [.bool]],0,[(0,9,2,.bool)],[],[],[]⟩
def D5(N:Nat):Nat->Int×Int×tmI->Option (Bool⊕Unit)|0,_=>none|k+1,(a,c,b)=>cond (a<=16) (cond (c==(aS (16777216*a))) ((cond ((Int.tmod (b.length:Int) 8)==0) (some (decide ((b.length:Int)<=4096))) (some false)).bind λd=>some (Sum.inl d)) (D5 N k ((aS (a+1)),c,b))) (some (Sum.inr ()))
def ay3:=(aei N).l N 3 (tm [(1,.P 0 1 0),(3,.U)] [] [(0,1,.box 0 (cP bp))] 1 [] 1) [tmr [(2,.Q)],tmx]
theorem az8:lpT (ay3 N) (D5 N):=lpI
def F23:Int×tmI->Option Bool|(a,b)=>(D5 N N (1,a,b)).bind λc=>match c with|.inl d=>d|.inr e=>false
def G23:=(ay3 N).p (F23 N) (by delta F23;rw[az8 N N];kernel_rfl)
def F47(N:Nat):bT Int->Option (Int×Int×Bool)|(e,f,b,a)=>(cond (a<256) (some true) (some (decide (a>=(aS (av (256*(av ((b.length:Int)+1))))))))).bind λc=>cond c (some (0,0,false)) ((idx b (av ((av (aS (Int.tdiv a 256)))-1))).bind λd=>cond ((av (Int.tmod a 256))>=(d.2.2.2.2.1.length:Int)) (some (0,0,false)) (some ((av ((av (aS (Int.tdiv a 256)))-1)),(av (Int.tmod a 256)),true)))
def G47:=((G23 N).on 47 ⟨[.agg (cP aW),.U],[tmf [.I],tmf [.I],tmf [.bool]],0,[(0,1,20,.bool)],[],[],[]⟩).p (F47 N)
def aej:=(G47 N).on 85 ⟨[.c (.sl iN .bD),.I],[tmf [.U]],0,[(0,9,5,.U)],[],[],[]⟩
def QP(N:Nat):Nat->List fA×Int×Int×Int->Option Int|0,_=>none|k+1,(a,c,d,b)=>cond (b<a.length) ((idx a b).bind λe=>(cond (e.1<=c) ((idx a b).bind λf=>some f.2) (some d)).bind λg=>QP N k (a,c,g,(av (b+1)))) d
def ay8:=(aej N).l N 4 (tmn [(0,.c (.sl iN .bD)),(1,.I),(5,.U),(6,.I)]) [(.exit 0,tmn [(5,.U)])]
theorem az9:lpT (ay8 N) (QP N):=lpI
def F85:List fA×Int->Option Int|(a,b)=>(QP N N (a,b,0,0)).bind λc=>c
def G85:=(ay8 N).p (F85 N) (by delta F85;rw[az9 N N];kernel_rfl)
def F48:bT (Int×Int)->Option Int|(d,e,a,b,f)=>(F73 N (d,e,a,b)).bind λg=>(idx a b).bind λh=>(F85 N (h.2.2.2.2.2.1,f)).bind λc=>cond (c>4096) (some 4097) (some (av (g.2+(av c))))
def G48:=((G85 N).on 48 (sg [.agg (cP aW),.I,.I] [tmf [.I]])).p (F48 N)
def F86(N:Nat):Int×tmI×Int×Int->Option Bool|(b,d,a,c)=>(cond (c>20000) (some true) (some (decide (a>2199023255552)))).bind λe=>cond e false ((cond (a>=b) (some (decide ((aS (a+(aS c)))<=(aS (b+(aS (d.length:Int))))))) (some false)).bind λf=>f)
def G86:=((G48 N).on 86 ⟨[.agg (cP bp),.U,.I],[tmf [.bool]],0,[(0,1,12,.bool),(0,4,6,.bool)],[],[],[]⟩).p (F86 N)
def aek:=(G86 N).on 87 (sg [.agg (cP bp),.U,.I] [tmf [.U]])
def iY(N:Nat):Nat->Int×Int×Int×Int×Int×Int×tmI->Option Int|0,_=>none|k+1,(b,c,d,e,a,f,g)=>cond (a<c) ((idx g (aS ((aS (b-f))+(aS a)))).bind λh=>iY N k (b,c,(aS (d+(aS (e*(aS h))))),(aS (e*256)),(av (a+1)),f,g)) d
def azg:=(aek N).l N 4 (tm [(1,.U),(2,.I),(3,.P 0 3 0),(7,.U),(8,.U),(9,.I)] [] [(0,3,.box 0 (cP bp))] 1 [] 1) [(.exit 0,tmn [(7,.U)])]
theorem aA0:lpT (azg N) (iY N):=lpI
def F87:Int×tmI×Int×Int->Option Int|(a,b,c,d)=>(iY N N (c,d,0,1,0,a,b)).bind λe=>e
def G87:=(azg N).p (F87 N) (by delta F87;rw[aA0 N N];kernel_rfl)
def F88(N:Nat):Int×Int->Option Bool|(a,b)=>(cond (a==0) (cond (b==0) (some true) (cond (a==2) (some (decide (b>0))) (cond (a==3) (some (decide (b>0))) (some false)))) (cond (a==1) (cond (b==0) (some true) (cond (a==2) (some (decide (b>0))) (cond (a==3) (some (decide (b>0))) (some false)))) (cond (a==2) (some (decide (b>0))) (cond (a==3) (some (decide (b>0))) (some false))))).bind λc=>c
def G88:=((G87 N).on 88 ⟨[.U,.U],[tmf [.bool]],0,[(0,1,4,.bool)],[],[],[]⟩).p (F88 N)
def F49:Int×tmI×Int->Option (Int×Int×Int×Int)|(a,b,c)=>(F23 N (a,b)).bind λf=>cond (!f) (some (0,0,0,8)) ((cond ((Int.tmod c 8)!=0) (some true) ((F86 N (a,b,c,24)).bind λg=>some (!g))).bind λh=>cond h (some (0,0,0,16)) ((F87 N (a,b,c,8)).bind λi=>(F87 N (a,b,(aS (c+8)),8)).bind λd=>(F87 N (a,b,(aS (c+16)),8)).bind λe=>(F88 N (d,e)).bind λj=>cond (!j) (some (0,0,0,12)) (some (i,d,e,0))))
def G49:=((G88 N).on 49 ⟨[.agg (cP bp),.U],[tmf [.U],tmf [.U],tmf [.U],tmf [.I]],0,[(0,4,22,.bool)],[],[],[]⟩).p (F49 N)
def ael:=(G49 N).on 24 ⟨[.agg (cP bp),.agg (cP aW),.U],[tmf [.D Bq],tmf [.I]],0,[(0,11,49,.bool),(0,16,95,.bool),(0,25,10,.I)],[],[(0,105,Bq)],[]⟩
def QQ:Nat->Int×List LH×Int×Int×Int×tmI×cZ->Option (List LH×Int)|0,_=>none|k+1,(m,f,c,j,e,l,g,h,i)=>(F47 N (g,h,i,m)).bind λd=>cond (!d.2.2) (some ([],6)) ((F48 N (g,h,i,d.1,d.2.1)).bind λb=>(cond ((aS b)>4096) (some true) (some (decide ((aS b)>(aS (c-e)))))).bind λn=>cond n (some ([],16)) ((F49 N (e,l,(aS (c-(aS b))))).bind λa=>(cond (a.2.2.2!=0) (some true) (cond (a.1==0) (cond ((aS (c-(aS b)))!=e) (some true) (cond (a.1!=0) (cond ((aS (c-(aS b)))==e) (some true) (cond (a.2.1==0) (cond (a.1!=0) (some ((Int.tmod a.1 256)==0)) (some false)) (some false))) (cond (a.2.1==0) (cond (a.1!=0) (some ((Int.tmod a.1 256)==0)) (some false)) (some false)))) (cond (a.1!=0) (cond ((aS (c-(aS b)))==e) (some true) (cond (a.2.1==0) (cond (a.1!=0) (some ((Int.tmod a.1 256)==0)) (some false)) (some false))) (cond (a.2.1==0) (cond (a.1!=0) (some ((Int.tmod a.1 256)==0)) (some false)) (some false))))).bind λo=>cond o (some ([],12)) (aK (room (f.length+1) 40) (cond (a.1==0) (some ((f++[((aS (c-(aS b))),d.1,(av (d.2.1-j)),a.2.1,a.2.2.1)]),0)) ((cond (a.2.1==0) (some 1) (some 0)).bind λp=>QQ k (a.1,(f++[((aS (c-(aS b))),d.1,(av (d.2.1-j)),a.2.1,a.2.2.1)]),(aS (c-(aS b))),p,e,l,g,h,i))))))
def azo:=(ael N).l N 4 (tm [(2,.U),(3,.P 0 3 0),(4,.P 0 4 1),(8,.A Bq 2),(9,.U),(10,.I)] [] [(0,3,.box 0 (cP bp)),(0,4,.box 1 (cP aW))] 1 [2] 3) [(.ret,tmv [(6,.A Bq 0),(7,.I)] 0 1)]
theorem aA1:lpT (azo N) (QQ N):=lpI
def F24:Int×tmI×bT Int->Option (List LH×Int)|(a,b,d,e,f,g)=>(QQ N N (g,[],(aS (a+(aS (b.length:Int)))),0,a,b,d,e,f)).bind λc=>(c.1,c.2)
def G24:=(azo N).p (F24 N) (by delta F24;rw[aA1 N N];kernel_rfl)
def apT:=(G24 N).on 6 ⟨[.agg (cP eZ)],[tmf [.I]],0,[(0,1,33,.bool),(0,4,71,.bool),(0,18,156,.bool)],[],[],[]⟩
def sy:Nat->Int×kE->Option (Int⊕Unit)|0,_=>none|k+1,(b,d,e,f,j,g,l,m,n,o,c,h,p)=>cond (b<c.length) ((idx c b).bind λa=>(idx h b).bind λi=>((F22 N b).bind λq=>cond (a.1!=q) (some true) ((F23 N (a.1,a.2)).bind λr=>cond (!r) (some true) (cond ((aS (a.1+(aS (a.2.length:Int))))!=i.2.2.1) (some true) (some (decide ((a.2.length:Int)>g)))))).bind λs=>cond s (some (Sum.inl 8)) (cond (i.1==3) (sy k ((av (b+1)),d,e,f,j,g,l,m,n,o,c,h,p)) ((F24 N (a.1,a.2,d,e,f,i.2.1)).bind λt=>cond (t.2!=0) (some (Sum.inl 8)) (sy k ((av (b+1)),d,e,f,j,g,l,m,n,o,c,h,p))))) (some (Sum.inr ()))
def aBQ:=(apT N).l N 13 (tm [(1,.P 0 1 0),(6,.I)] [] [(0,1,.box 0 (cP eZ))] 1 [] 1) [tmr [(2,.I)],tmx]
theorem aA2:lpT (aBQ N) (sy N):=lpI
def F6:kE->Option Int|(i,e,j,f,l,c,g,m,a,n,d,h)=>((F17 N (i,e,j)).bind λo=>cond (o !=0) (some true) ((F18 N (f,l,c,g)).bind λp=>cond (!p) (some true) (cond (h<0) (some true) (some (decide (h>f)))))).bind λq=>cond q (some 8) (((F19 N (m,a)).bind λr=>cond (!r) (some true) (cond ((a.length:Int)>c) (some true) ((F20 N d).bind λs=>cond (s !=0) (some true) (cond ((d.length:Int)>g) (some true) (some ((n.length:Int)!=(d.length:Int))))))).bind λt=>cond t (some 8) ((F21 N (e,c)).bind λb=>cond (b.2.2.2!=0) (some 8) (cond ((b.2.1.length:Int)>(a.length:Int)) (some 8) (aK (decide (0<=(b.2.1.length:Int))) (aK (decide ((Int.toNat (b.2.1.length:Int))<=a.length)) (cond (!((b.2.1.map λ(n:Int)=>UInt8.ofNat n.toNat)==((a.take (Int.toNat (b.2.1.length:Int))).map λ(n:Int)=>UInt8.ofNat n.toNat))) (some 8) ((sy N N (0,i,e,j,f,l,c,g,m,a,n,d,h)).bind λu=>match u with|.inl v=>v|.inr w=>some 0)))))))
def G6:=(aBQ N).p (F6 N) (by delta F6;rw[aA2 N N];kernel_rfl)
def F8:kE->Option (Int×Int)|(a,b,c,d,e,f,g,h,i,j,l,m)=>(SQ N (a,b,c,d,e,f,g,h,i,j,l,m)).bind λn=>cond (n !=0) (some (0,n)) ((F26 N (a,b,c,d,e,f,g,h,i,j,l,m)).bind λo=>some (o,0))
def G8:=((G6 N).on 8 (sg [.agg (cP eZ)] [tmf [.B],tmf [.I]])).p (F8 N)
def aem:=(G8 N).on 41 (sg [.c (.sl bK .bD)] [tmf [.bool]])
def sB(N:Nat):Nat->List aB×Int×Int->Option (Bool⊕(List aB×Int))|0,_=>none|k+1,(a,b,c)=>(idx a b).bind λd=>cond (c<d.2.2.2.length) ((idx a b).bind λe=>(idx e.2.2.2 c).bind λf=>cond ((f.1.length:Int)>100) (some (Sum.inl true)) (sB N k (a,b,(av (c+1))))) (some (Sum.inr (a,b)))
def aen:=(aem N).l N 15 (tmn [(0,.c (.sl bK .bD)),(3,.I),(4,.I)]) [tmr [(2,.Q)],(.exit 2,tmn [(0,.c (.sl bK .bD)),(3,.I)])]
theorem aA3:lpT (aen N) (sB N):=lpI
def D6:Nat->List aB×Int->Option (Bool⊕Unit)|0,_=>none|k+1,(a,b)=>cond (b<a.length) ((idx a b).bind λd=>cond ((d.2.2.2.length:Int)>20) (some (Sum.inl true)) ((sB N N (a,b,0)).bind λe=>match e with|.inl f=>some (Sum.inl f)|.inr c=>D6 k (c.1,(av (c.2+1))))) (some (Sum.inr ()))
def azq:=(aen N).l N 6 (tmn [(0,.c (.sl bK .bD)),(3,.I)]) [tmr [(2,.Q)],tmx]
theorem aA4:lpT (azq N) (D6 N):=lpJ λk=>funext λ⟨a,b⟩=>by rw[D6,aA3 N N];kernel_rfl
def F41:List aB->Option Bool|a=>cond ((a.length:Int)>40) true ((D6 N N (a,0)).bind λb=>match b with|.inl c=>c|.inr d=>false)
def G41:=(azq N).p (F41 N) (by delta F41;rw[aA4 N N];kernel_rfl)
def aeo:=(G41 N).on 16 ⟨[.agg (cP aW)],[tmf [.bool]],0,[(0,1,22,.bool),(0,23,85,.bool)],[],[],[]⟩
def QR(N:Nat):Nat->Int×cZ->Option (Bool⊕cZ)|0,_=>none|k+1,(b,c,a,d)=>cond (b<a.length) ((idx a b).bind λe=>cond ((e.length:Int)>100) (some (Sum.inl true)) (QR N k ((av (b+1)),c,a,d))) (some (Sum.inr (c,a,d)))
def aep:=(aeo N).l N 6 (tm [(1,.P 0 1 0),(3,.I)] [] [(0,1,.box 0 (cP aW))] 1 [] 1) [tmr [(2,.Q)],(.exit 0,tm [(1,.P 0 1 0)] [] [(0,1,.box 0 (cP aW))] 1 [] 1)]
theorem aA5:lpT (aep N) (QR N):=lpI
def s5(N:Nat):Nat->Int×Int×Int×dS->Option (Bool⊕(Int×Int×cZ))|0,_=>none|k+1,(c,d,a,e,f,g,h,i,j,b,l,m,n)=>cond (a<b.length) ((idx b a).bind λo=>cond ((o.1.length:Int)>100) (some (Sum.inl true)) (s5 N k (c,d,(av (a+1)),e,f,g,h,i,j,b,l,m,n))) (some (Sum.inr (c,d,e,f,g)))
def aeq:=(aep N).l N 28 (tm [(1,.P 0 1 0),(4,.I),(5,.I),(6,.P 0 6 1),(7,.I)] [] [(0,1,.box 0 (cP aW)),(0,6,.box 1 (bg dQ))] 1 [] 2) [tmr [(2,.Q)],(.exit 4,tm [(1,.P 0 1 0),(4,.I),(5,.I)] [] [(0,1,.box 0 (cP aW))] 1 [] 1)]
theorem aA6:lpT (aeq N) (s5 N):=lpI
def D8:Nat->Int×Int×cZ->Option (Bool⊕Unit)|0,_=>none|k+1,(e,c,f,g,d)=>cond (c<d.length) ((idx d c).bind λa=>(cond ((a.1.length:Int)>100) (some true) (cond ((a.2.2.2.1.length:Int)>20) (some true) (cond ((a.2.2.2.2.1.length:Int)>210) (some true) (cond ((a.2.2.2.2.2.1.length:Int)>210) (some true) (cond ((a.2.2.2.2.2.2.length:Int)>210) (some true) (some (decide ((av (e+(a.2.2.2.2.1.length:Int)))>1000)))))))).bind λh=>cond h (some (Sum.inl true)) ((s5 N N ((av (e+(a.2.2.2.2.1.length:Int))),c,0,f,g,d,a.1,a.2.1,a.2.2.1,a.2.2.2.1,a.2.2.2.2.1,a.2.2.2.2.2.1,a.2.2.2.2.2.2)).bind λi=>match i with|.inl j=>some (Sum.inl j)|.inr b=>D8 k (b.1,(av (b.2.1+1)),b.2.2.1,b.2.2.2.1,b.2.2.2.2))) (some (Sum.inr ()))
def azs:=(aeq N).l N 17 (tm [(1,.P 0 1 0),(4,.I),(5,.I)] [] [(0,1,.box 0 (cP aW))] 1 [] 1) [tmr [(2,.Q)],(.exit 2,tmz)]
theorem aA7:lpT (azs N) (D8 N):=lpJ λk=>funext λ⟨a,b,c,d,e⟩=>by rw[D8,aA6 N N];kernel_rfl
def F16:cZ->Option Bool|(b,c,d)=>((F41 N b).bind λe=>cond e (some true) (cond ((c.length:Int)>40) (some true) (some (decide ((d.length:Int)>40))))).bind λf=>cond f true ((QR N N (0,b,c,d)).bind λg=>match g with|.inl h=>h|.inr a=>(D8 N N (0,0,a.1,a.2.1,a.2.2)).bind λi=>match i with|.inl j=>j|.inr l=>false)
def G16:=(azs N).p (F16 N) (by delta F16;rw[aA5 N N,aA7 N N];kernel_rfl)
def apU:=(G16 N).on 5 ⟨[.agg (cP eZ)],[tmf [.bool]],0,[(0,1,25,.bool)],[],[],[]⟩
def Rd(N:Nat):Nat->Int×kE->Option (Bool⊕Unit)|0,_=>none|k+1,(a,c,d,e,f,g,h,i,j,l,b,m,n)=>cond (a<b.length) ((idx b a).bind λo=>cond ((o.2.length:Int)>4200) (some (Sum.inl true)) (Rd N k ((av (a+1)),c,d,e,f,g,h,i,j,l,b,m,n))) (some (Sum.inr ()))
def aBR:=(apU N).l N 6 (tm [(1,.P 0 1 0),(3,.I)] [] [(0,1,.box 0 (cP eZ))] 1 [] 1) [tmr [(2,.Q)],tmx]
theorem aA8:lpT (aBR N) (Rd N):=lpI
def F5:kE->Option Bool|(a,b,c,g,h,i,j,l,d,e,f,m)=>((F16 N (a,b,c)).bind λn=>cond n (some true) (cond ((d.length:Int)>4200) (some true) (cond ((e.length:Int)>20) (some true) (some (decide ((f.length:Int)>20)))))).bind λo=>cond o true ((Rd N N (0,a,b,c,g,h,i,j,l,d,e,f,m)).bind λp=>match p with|.inl q=>q|.inr r=>false)
def G5:=(aBR N).p (F5 N) (by delta F5;rw[aA8 N N];kernel_rfl)
def apV:=(G5 N).on 7 ⟨[.c (.sl eG .bD)],[tmf [.D .I]],0,[],[],[(0,19,.I)],[]⟩
def D9(N:Nat):Nat->List bY×tmI×Int->Option tmI|0,_=>none|k+1,(b,c,a)=>cond (a<b.length) ((idx b a).bind λd=>cond (d.1==1) (aK (room (c.length+1) 8) (D9 N k (b,(c++[a]),(av (a+1))))) (D9 N k (b,c,(av (a+1))))) c
def aBS:=(apV N).l N 4 (tmv [(0,.c (.sl eG .bD)),(3,.A .I 0),(4,.I)] 0 1) [(.exit 0,tmv [(3,.A .I 0)] 0 1)]
theorem aB0:lpT (aBS N) (D9 N):=lpI
def F7:List bY->Option tmI|a=>(D9 N N (a,[],0)).bind λb=>b
def G7:=(aBS N).p (F7 N) (by delta F7;rw[aB0 N N];kernel_rfl)
def aer:=(G7 N).on 65 ⟨[.c (.sl bK .bD),.c (.sl bK .bD)],[tmf [.bool]],0,[(0,10,67,.bool)],[],[],[]⟩
def So:Nat->List aB×List aB×Int->Option (Bool⊕Unit)|0,_=>none|k+1,(b,c,a)=>cond (a<b.length) (((idx b a).bind λd=>(idx c a).bind λe=>cond (d.1!=e.1) (some true) ((idx b a).bind λf=>(idx c a).bind λg=>cond (f.2.1!=g.2.1) (some true) ((idx b a).bind λh=>(idx c a).bind λi=>cond (h.2.2.1!=i.2.2.1) (some true) ((idx b a).bind λj=>(idx c a).bind λl=>(SA N (j.2.2.2,l.2.2.2)).bind λm=>some (!m))))).bind λn=>cond n (some (Sum.inl false)) (So k (b,c,(av (a+1))))) (some (Sum.inr ()))
def azu:=(aer N).l N 6 (tmn [(0,.c (.sl bK .bD)),(1,.c (.sl bK .bD)),(5,.I)]) [tmr [(4,.Q)],tmx]
theorem aB1:lpT (azu N) (So N):=lpI
def F65:List aB×List aB->Option Bool|(a,b)=>cond ((a.length:Int)!=(b.length:Int)) false ((So N N (a,b,0)).bind λc=>match c with|.inl d=>d|.inr e=>true)
def G65:=(azu N).p (F65 N) (by delta F65;rw[aB1 N N];kernel_rfl)
def aes:=(G65 N).on 33 ⟨[.agg (cP aW),.agg (cP aW)],[tmf [.bool]],0,[(0,1,30,.bool)],[],[],[]⟩
def ST(N:Nat):Nat->Int×bT cZ->Option (Bool⊕(bT cZ))|0,_=>none|k+1,(a,d,b,e,f,c,g)=>cond (a<b.length) ((idx b a).bind λh=>(idx c a).bind λi=>cond (!(h==i)) (some (Sum.inl false)) (ST N k ((av (a+1)),d,b,e,f,c,g))) (some (Sum.inr (d,b,e,f,c,g)))
def aet:=(aes N).l N 6 (tm [(2,.P 0 2 0),(3,.P 0 3 1),(5,.I)] [] [(0,2,.box 0 (cP aW)),(0,3,.box 1 (cP aW))] 1 [] 2) [tmr [(4,.Q)],(.exit 0,tm [(2,.P 0 2 0),(3,.P 0 3 1)] [] [(0,2,.box 0 (cP aW)),(0,3,.box 1 (cP aW))] 1 [] 2)]
theorem aB2:lpT (aet N) (ST N):=lpI
def UV:Nat->Int×bT cZ->Option (Bool⊕Unit)|0,_=>none|k+1,(c,f,g,d,h,i,e)=>cond (c<d.length) ((idx d c).bind λa=>(idx e c).bind λb=>(F66 N (a.1,a.2.1,a.2.2.1,a.2.2.2.1,a.2.2.2.2.1,a.2.2.2.2.2.1,a.2.2.2.2.2.2,b.1,b.2.1,b.2.2.1,b.2.2.2.1,b.2.2.2.2.1,b.2.2.2.2.2.1,b.2.2.2.2.2.2)).bind λj=>cond (!j) (some (Sum.inl false)) (UV k ((av (c+1)),f,g,d,h,i,e))) (some (Sum.inr ()))
def azw:=(aet N).l N 16 (tm [(2,.P 0 2 0),(3,.P 0 3 1),(6,.I)] [] [(0,2,.box 0 (cP aW)),(0,3,.box 1 (cP aW))] 1 [] 2) [tmr [(4,.Q)],(.exit 2,tmz)]
theorem aB4:lpT (azw N) (UV N):=lpI
def F33:bT cZ->Option Bool|(b,c,d,e,f,g)=>((F65 N (b,e)).bind λh=>cond (!h) (some true) (cond ((c.length:Int)!=(f.length:Int)) (some true) (some ((d.length:Int)!=(g.length:Int))))).bind λi=>cond i false ((ST N N (0,b,c,d,e,f,g)).bind λj=>match j with|.inl l=>l|.inr a=>(UV N N (0,a.1,a.2.1,a.2.2.1,a.2.2.2.1,a.2.2.2.2.1,a.2.2.2.2.2)).bind λm=>match m with|.inl n=>n|.inr o=>true)
def G33:=(azw N).p (F33 N) (by delta F33;rw[aB2 N N,aB4 N N];kernel_rfl)
def F34(N:Nat):Int×tmI×Int×tmI->Option Bool|(a,b,c,d)=>cond (a==c) (some ((b.map λ(n:Int)=>UInt8.ofNat n.toNat)==(d.map λ(n:Int)=>UInt8.ofNat n.toNat))) false
def G34:=((G33 N).on 34 (sg [.agg (cP bp),.agg (cP bp)] [tmf [.bool]])).p (F34 N)
def aeu:=(G34 N).on 35 (sg [.c (.sl eG .bD),.c (.sl eG .bD)] [tmf [.bool]])
def VA(N:Nat):Nat->List bY×List bY×Int->Option (Bool⊕Unit)|0,_=>none|k+1,(d,e,c)=>cond (c<d.length) ((idx d c).bind λa=>(idx e c).bind λb=>cond (!(a.1==b.1&&(a.2.1==b.2.1&&(a.2.2.1==b.2.2.1&&(a.2.2.2.1==b.2.2.2.1&&(a.2.2.2.2.1==b.2.2.2.2.1&&(a.2.2.2.2.2==b.2.2.2.2.2&&true))))))) (some (Sum.inl false)) (VA N k (d,e,(av (c+1))))) (some (Sum.inr ()))
def azB:=(aeu N).l N 6 (tmn [(0,.c (.sl eG .bD)),(1,.c (.sl eG .bD)),(5,.I)]) [tmr [(4,.Q)],tmx]
theorem aB5:lpT (azB N) (VA N):=lpI
def F35:List bY×List bY->Option Bool|(a,b)=>cond ((a.length:Int)!=(b.length:Int)) false ((VA N N (a,b,0)).bind λc=>match c with|.inl d=>d|.inr e=>true)
def G35:=(azB N).p (F35 N) (by delta F35;rw[aB5 N N];kernel_rfl)
def aev:=(G35 N).on 11 ⟨[.agg (cP eZ),.agg (cP eZ)],[tmf [.bool]],0,[(0,1,50,.bool)],[],[],[]⟩
def VB:Nat->Int×rF kE->Option (Bool⊕Unit)|0,_=>none|k+1,(a,f,g,h,i,j,l,m,n,o,b,p,q,r,s,t,u,v,w,x,y,z,c,A,B)=>cond (a<b.length) ((idx b a).bind λd=>(idx c a).bind λe=>(F34 N (d.1,d.2,e.1,e.2)).bind λC=>cond (!C) (some (Sum.inl false)) (VB k ((av (a+1)),f,g,h,i,j,l,m,n,o,b,p,q,r,s,t,u,v,w,x,y,z,c,A,B))) (some (Sum.inr ()))
def azD:=(aev N).l N 6 (tm [(2,.P 0 2 0),(3,.P 0 3 1),(5,.I)] [] [(0,2,.box 0 (cP eZ)),(0,3,.box 1 (cP eZ))] 1 [] 2) [tmr [(4,.Q)],tmx]
theorem aB6:lpT (azD N) (VB N):=lpI
def F11:rF kE->Option Bool|(a,b,c,d,e,f,g,h,i,j,l,m,n,o,p,q,r,s,t,u,v,w,x,y)=>((F33 N (a,b,c,n,o,p)).bind λz=>cond (!z) (some true) (cond (!(d==q&&(e==r&&(f==s&&(g==t&&true))))) (some true) ((F34 N (h,i,u,v)).bind λA=>cond (!A) (some true) (cond ((j.length:Int)!=(w.length:Int)) (some true) ((F35 N (l,x)).bind λB=>cond (!B) (some true) (some (m !=y))))))).bind λC=>cond C false ((VB N N (0,a,b,c,d,e,f,g,h,i,j,l,m,n,o,p,q,r,s,t,u,v,w,x,y)).bind λD=>match D with|.inl E=>E|.inr G=>true)
def G11:=(azD N).p (F11 N) (by delta F11;rw[aB6 N N];kernel_rfl)
def F4(N:Nat)(x:Unit):Option Bool:=Ot.F x
theorem ap0:F4 N ()=some true:=rfl
def G4:ah:=(G11 N).E.pJ 4 Ot
def YC(f:Nat)(l:List AV):Option AV:=match Nat.beq f 4,l with|true,[]=>some (.d (.sc (.bool true)))|_,_=>none
def Jj:Go.bL.Call:=λf l _ _ nv=>(YC f l).map λa=>(a,[.lf],.lf,nv)
theorem K4:az (bQ Jj) (G4 N):=((G11 N).ok Jj).pJ (Sf (n:=1) (by kernel_rfl))
def s3:bW:=⟨[.agg (bg eZ),.I,.I],[tmf [.bool]],0,[(0,2,46,.bool),(0,9,82,.bool),(0,15,6,.bool),(0,16,151,.bool),(0,19,6,.bool)],[],[],[]⟩
def F3:rF (Int×Int)->Option Bool|(d,e,f,g,h,i,j,l,m,n,b,o,p,r)=>(F4 N ()).bind λs=>((F5 N (d,e,f,g,h,i,j,l,m,n,b,o)).bind λv=>cond v (some true) ((F6 N (d,e,f,g,h,i,j,l,m,n,b,o)).bind λw=>cond (w !=0) (some true) (cond (p<0) (some true) (cond (r<0) (some true) (cond (p>65535) (some true) (cond (r>65535) (some true) (some (!s)))))))).bind λx=>cond x s ((F7 N b).bind λq=>(F8 N (d,e,f,g,h,i,j,l,m,n,b,o)).bind λu=>(F9 N (d,e,f,g,h,i,j,l,m,n,b,o,p)).bind λc=>(F9 N (d,e,f,g,h,i,j,l,m,n,b,o,r)).bind λt=>(cond (u.2!=0) (some true) (cond (!((u.1==3)==((q.length:Int)==0))) (some true) (some (c.2!=t.2)))).bind λy=>cond y false (cond ((q.length:Int)==0) ((F10 N (d,e,f,g,h,i,j,l,m,n,b,o,p)).bind λa=>(cond s (cond (c.2==6) (cond (a.2.2.2.2.2.2.2.2.2.2.2.2.2.2==0) (cond (a.2.2.2.2.2.2.2.2.2.2.2.2.1==3) (cond (a.2.2.2.2.2.2.2.2.2.2.2.2.2.1==(-1)) ((F11 N (a.1,a.2.1,a.2.2.1,a.2.2.2.1,a.2.2.2.2.1,a.2.2.2.2.2.1,a.2.2.2.2.2.2.1,a.2.2.2.2.2.2.2.1,a.2.2.2.2.2.2.2.2.1,a.2.2.2.2.2.2.2.2.2.1,a.2.2.2.2.2.2.2.2.2.2.1,a.2.2.2.2.2.2.2.2.2.2.2.1,d,e,f,g,h,i,j,l,m,n,b,o)).bind λz=>some z) (some false)) (some false)) (some false)) (some false)) (some false)).bind λA=>A) ((cond (c.2!=0) (some true) (cond (c.1<0) (some true) (cond (c.1>=b.length) (some true) ((idx b c.1).bind λB=>cond (B.1!=1) (some true) (aK (!((q.length:Int)=0)) (cond ((Int.tmod (av (p-r)) (q.length:Int))==0) (some (c.1!=t.1)) (some false))))))).bind λC=>cond C false ((cond s (cond ((q.length:Int)>1) (some true) (some (c.1==t.1))) (some false)).bind λD=>D))))
def G3:ah:=(G4 N).put 3 s3 (F3 N)
theorem K3:az (bQ Jj) (G3 N):=(K4 N).put ((K4 N).on s3) _ _ _ (by kernel_rfl)
end
end Go.Proofs.YtgdkmdochlhhlaaGreat
namespace Go.Sym
open Go Go.bL
def aQ{n:Int}(h:-9223372036854775808<=n/\n<=9223372036854775807):av n=n:=IntWalk.i64_in n h
def aZ{n:Int}(h:0<=n/\n<=18446744073709551615):aS n=n:=IntWalk.u64_in n h
def Cn{a b:Int}(h:0<=a):Int.tdiv a b=a/b:=Int.tdiv_eq_ediv_of_nonneg h
def oK{a b:Int}(h:0<=a):Int.tmod a b=a%b:=Int.tmod_eq_emod_of_nonneg h
def sG{α:Type}(pre:List α)(x:α)(r:List α):idx (pre++x::r) (pre.length:Int)=some x:=by simp[idx]
def nY{α:Type}{l pre:List α}{x:α}{r:List α}{i:Int}(hl:l=pre++x::r)(hi:i=(pre.length:Int)):idx l i=some x:=by grind[idx]
def pS{α:Type}{l:List α}{i:Int}{x:α}(h0:0<=i)(h:l[i.toNat]?=some x):idx l i=some x:=by simp[idx,h0,h]
def Qx{n b:Nat}(h1:n<=9223372036854775807)(h2:n*b<=140737488355328):room n b=true:=by simp[room,eW,jA,h1,h2]
def aj{α:Type}(k:Option α):aK true k=k:=rfl
def j0{α:Type}{b:Bool}{k r:Option α}(h1:b=true)(h2:k=r):aK b k=r:=by rw[h1];exact h2
def kK{β:Type}{n:Nat}{Lf:Nat->Int->Option β}{g:Nat->Option β}(h0:∀k,Lf (k+1) (n:Int)=g n)(hs:∀k i,i<n->Lf k ((i+1:Nat):Int)=g (i+1)->Lf (k+1) (i:Int)=g i):∀k i,i<=n->n-i<k->Lf k (i:Int)=g i
 |0,_,_,h=>by omega|k+1,i,hi,hk=>by
  by_cases he:i=n;.grind
  .exact hs k i (by omega) (kK h0 hs k (i+1) (by omega) (by omega))
def abV{σ β:Type}{n:Nat}{I:Nat->σ->Prop}{Lf:Nat->Int->σ->Option β}{g:Nat->σ->Option β}(h0:∀k s,I n s->Lf (k+1) (n:Int) s=g n s)(hs:∀k i s,i<n->I i s->(∀s',I (i+1) s'->Lf k ((i+1:Nat):Int) s'=g (i+1) s')->Lf (k+1) (i:Int) s=g i s):∀k i s,I i s->i<=n->n-i<k->Lf k (i:Int) s=g i s
 |0,_,_,_,_,h=>by omega|k+1,i,s,hI,hi,hk=>by
  by_cases he:i=n;.grind
  .exact hs k i s (by omega) hI λs' hI'=>abV h0 hs k (i+1) s' hI' (by omega) (by omega)
def oL{α β:Type}[DecidableEq α]{l m:List α}[Decidable (l=m)]{a b:β}{Lf:Nat->Int->Option β}(hl:l.length=m.length)(h0:∀k,Lf (k+1) (l.length:Int)=some a)(hs:∀(k i:Nat)x y,x∈l->y∈m->l[i]?=some x->m[i]?=some y->Lf (k+1) (i:Int)=if x=y then Lf k ((i+1:Nat):Int)else some b):∀k,l.length<k->Lf k 0=some (if l=m then a else b):=by
 classical intro k hk;have:=kK (n:=l.length) (Lf:=Lf) (g:=λi=>some (if l.drop i=m.drop i then a else b)) (λk=>by rw[h0 k];simp[hl]) (λk i hi ih=>by
  have e1:=aw hi;have e2:=aw (l:=m) (i:=i) (by omega);rw[hs k i _ _ (i9 hi) (i9 _) e1 e2,ih,gg hi,gg (l:=m) (i:=i) (by omega)];simp only[List.cons.injEq];by_cases h:l[i]=m[i]'(by omega);.simp only[h,jn,true_and]
  .simp only[h,n3,false_and]) k 0 (by omega) (by omega);grind
def Mb{α β:Type}{l:List α}{a b:β}{p:α->Bool}{Lf:Nat->Int->Option β}(h0:∀k,Lf (k+1) (l.length:Int)=some a)(hs:∀(k i:Nat)x,x∈l->l[i]?=some x->Lf (k+1) (i:Int)=if p x then some b else Lf k ((i+1:Nat):Int)):∀k,l.length<k->Lf k 0=some (if l.any p then b else a):=by
 intro k hk;have:=kK (n:=l.length) (Lf:=Lf) (g:=λi=>some (if(l.drop i).any p then b else a)) (λk=>by rw[h0 k];simp) (λk i hi ih=>by
  have e1:=aw hi;rw[hs k i _ (i9 hi) e1,ih,gg hi];rw[List.any_cons];by_cases h:p l[i]=true;.rw[h];rfl
  .rw[rb]at h;rw[h];rfl) k 0 (by omega) (by omega);grind
def vA{α β:Type}{l:List α}{a b:β}{P:α->Prop}{n:Nat}{Lf:Nat->Int->Option β}(hn:n<=l.length)(h0:∀k,Lf (k+1) (n:Int)=some a)(hs:∀(k i:Nat)x,i<n->x∈l->l[i]?=some x->Lf (k+1) (i:Int)=some b\/(P x/\Lf (k+1) (i:Int)=Lf k ((i+1:Nat):Int))):∀k,n<k->Lf k 0=some b\/(Lf k 0=some a/\∀(i:Nat)x,i<n->l[i]?=some x->P x):=by
 have key:∀k i,i<=n->n-i<k->Lf k (i:Int)=some b\/(Lf k (i:Int)=some a/\∀(j:Nat)x,i<=j->j<n->l[j]?=some x->P x):=by intro k;induction k with|zero=>omega|succ k ih=>
   intro i hi hk;by_cases he:i=n;.subst he;exact .inr ⟨h0 k,λj x h1 h2=>by omega⟩
   .have hl:i<l.length:=by omega
    have e1:=aw hl;rcases hs k i _ (by omega) (i9 hl) e1 with h|⟨hp,h⟩;.exact .inl h
    .rw[h];rcases ih (i+1) (by omega) (by omega)with h|⟨h,h2⟩;.exact .inl h
     .refine .inr ⟨h,λj x h3 h4 h5=>?_⟩;by_cases hj:j=i;.subst hj;simp_all
      .exact h2 j x (by omega) h4 h5
 intro k hk;rcases key k 0 (by omega) (by omega)with h|⟨h,h2⟩<;>grind
def aE{α:Type}{l:List α}{i:Nat}{x:α}(h:l[i]?=some x):idx l (i:Int)=some x:=pS (by omega) (by grind)
def cB{n i:Nat}(h:i<n):gB (i:Int) n=true:=by simp[gB,h]
def ai{i:Nat}(h:i<9223372036854775807):av ((i:Int)+1)=((i+1:Nat):Int):=by rw[aQ (by omega)];rfl
def aN{i n:Nat}(h:i<n):decide ((i:Int)<(n:Int))=true:=bo (by omega)
def aO(n:Nat):decide ((n:Int)<(n:Int))=false:=bv (by omega)
def Mc{α:Type}{l:List α}{i:Nat}{x:α}(h:l[i]?=some x):l.set i x=l:=by obtain⟨h1,h2⟩:=ci.1 h;rw[<-h2];exact List.set_getElem_self h1
def YD{d:fW}{r:List fW}:okD (d::r)↔d.t.ok d.v/\okD r:=by simp[okD]
def BE{H:Type}{enc:TypeId×Value->H}{P:Program}{w:World}{base:Nat}{sp:Nat->Bool}{held:Bool}:∀{ts:List TypeId}{vs:List Value}{ds:List (DataW H)}{ps:List MemPlace},DataW.TrodAll enc P w base sp held ts vs ds ps->ds.length=ts.length|[],[],[],_,_=>rfl|_::_,_::_,_::_,_,h=>by obtain⟨p,q,_,h2,_⟩:=h;simp[BE h2]|[],_::_,_,_,h=>h.elim|[],[],_::_,_,h=>h.elim|_::_,[],_,_,h=>h.elim|_::_,_::_,[],_,h=>h.elim
def abW(P:Program):Sd P none:=λ_ h=>by cases h
def abX{P:Program}{W:World}{b:Nat}{args:Array Value}{params:Array TypeId}{l:List Bn}(hp:params=(l.map (·.1)).toArray)(h:∀(j:Nat)t v,params[j]?=some t->args[j]?=some v->Value.okWide P W .any b t v):∀(j:Nat)(p:Bn)v,l[j]?=some p->args[j]?=some v->Value.okWide P W .any b p.1 v:=λj p v hj hv=>h j p.1 v (by grind) hv
end Go.Sym
namespace Go.Proofs.YtgdkmdochlhhlaaGreat
open Go Go.bL Go.Sym
def dL(a b:Bool):(bif a then some true else some b:Option Bool)=some (a||b):=by grind
def gE(a b:Bool):(bif a then some b else some false:Option Bool)=some (a&&b):=by grind
def zY{α:Type}(c:Bool)(a b:α):(bif c then some a else some b)=some (bif c then a else b):=by grind
def abY{α:Type}(o:Option α):(Option.bind o λx=>some x)=o:=by grind
def au{α:Type}(a b:α):(bif true then a else b)=a:=rfl
def af{α:Type}(a b:α):(bif false then a else b)=b:=rfl
noncomputable def U(c:UInt8):Int×Int×Bool×Bool:=if c=119then(0,15,false,true)else if c=114then(0,15,true,false)else if c=110then(-9223372036854775808,9223372036854775807,false,false)else if c=116then(0,31,false,false)else if c=99then(0,31,false,false)else if c=98then(0,1,false,false)else if c=102then(0,7,false,false)else if c=105then(0,199,false,false)else if c=103then(-1,15,false,true)else if c=101then(-1,15,true,false)else(0,0,false,false)
noncomputable def mj(c:UInt8):Bool:=[119,114,110,116,99,98,102,105,103,101,45].contains c
noncomputable def ah0:List (UInt8×UInt8×UInt8):=[(119,110,45),(119,116,45),(119,98,45),(119,45,45),(119,114,45),(119,114,114),(119,114,114),(119,114,114),(119,114,114),(119,114,114),(119,114,114),(119,114,45),(119,114,102),(114,102,114),(119,45,45),(119,114,45),(114,114,45),(119,114,45),(119,114,114),(114,114,114),(119,114,45),(105,45,45),(114,105,45),(114,45,45),(103,99,45),(99,45,45),(99,45,45),(114,45,45),(119,119,45),(45,45,45),(45,45,45),(114,45,45),(119,114,45),(101,45,45)]
noncomputable def yL(op:Int):Option (UInt8×UInt8×UInt8):=if 1<=op/\op<=34then ah0[(op-1).toNat]?else none
def Hw(p0:Int):(1<=p0/\p0<=34)\/∀k:Int,1<=k->k<=34->(p0==k)=false:=by grind
def Md{N:Nat}{p0:Int}(ne:∀k:Int,1<=k->k<=34->(p0==k)=false):Jf N p0=some []:=by simp[Jf.eq_1,ne 1 (by decide) (by decide),ne 2 (by decide) (by decide),ne 3 (by decide) (by decide),ne 4 (by decide) (by decide),ne 5 (by decide) (by decide),ne 6 (by decide) (by decide),ne 7 (by decide) (by decide),ne 8 (by decide) (by decide),ne 9 (by decide) (by decide),ne 10 (by decide) (by decide),ne 11 (by decide) (by decide),ne 12 (by decide) (by decide),ne 13 (by decide) (by decide),ne 14 (by decide) (by decide),ne 15 (by decide) (by decide),ne 16 (by decide) (by decide),ne 17 (by decide) (by decide),ne 18 (by decide) (by decide),ne 19 (by decide) (by decide),ne 20 (by decide) (by decide),ne 21 (by decide) (by decide),ne 22 (by decide) (by decide),ne 23 (by decide) (by decide),ne 24 (by decide) (by decide),ne 25 (by decide) (by decide),ne 26 (by decide) (by decide),ne 27 (by decide) (by decide),ne 28 (by decide) (by decide),ne 29 (by decide) (by decide),ne 30 (by decide) (by decide),ne 31 (by decide) (by decide),ne 32 (by decide) (by decide),ne 33 (by decide) (by decide),ne 34 (by decide) (by decide),af,dL,xi,ae]
def OU{N:Nat}{p0:Int}(ne:∀k:Int,1<=k->k<=34->(p0==k)=false):Jh N p0=some ((0:Int),(0:Int),false,false,(0:Int),(0:Int),false,false,(0:Int),(0:Int),false,false,(-1:Int)):=by simp[Jh.eq_1,ne 1 (by decide) (by decide),ne 2 (by decide) (by decide),ne 3 (by decide) (by decide),ne 4 (by decide) (by decide),ne 5 (by decide) (by decide),ne 6 (by decide) (by decide),ne 7 (by decide) (by decide),ne 8 (by decide) (by decide),ne 9 (by decide) (by decide),ne 10 (by decide) (by decide),ne 11 (by decide) (by decide),ne 12 (by decide) (by decide),ne 13 (by decide) (by decide),ne 14 (by decide) (by decide),ne 15 (by decide) (by decide),ne 16 (by decide) (by decide),ne 17 (by decide) (by decide),ne 18 (by decide) (by decide),ne 19 (by decide) (by decide),ne 20 (by decide) (by decide),ne 21 (by decide) (by decide),ne 22 (by decide) (by decide),ne 23 (by decide) (by decide),ne 24 (by decide) (by decide),ne 25 (by decide) (by decide),ne 26 (by decide) (by decide),ne 27 (by decide) (by decide),ne 28 (by decide) (by decide),ne 29 (by decide) (by decide),ne 30 (by decide) (by decide),ne 31 (by decide) (by decide),ne 32 (by decide) (by decide),ne 33 (by decide) (by decide),ne 34 (by decide) (by decide),af,dL,xi,ae]
def Qy{p0:Int}(ne:∀k:Int,1<=k->k<=34->(p0==k)=false):yL p0=none:=by unfold yL<;>grind
def uX(N:Nat)(p0:Int):Jf N p0=some (match yL p0 with|some (a,b,c)=>[a,b,c]|none=>[]):=by
  rcases Hw p0 with h|ne
  . have:p0=1\/p0=2\/p0=3\/p0=4\/p0=5\/p0=6\/p0=7\/p0=8\/p0=9\/p0=10\/p0=11\/p0=12\/p0=13\/p0=14\/p0=15\/p0=16\/p0=17\/p0=18\/p0=19\/p0=20\/p0=21\/p0=22\/p0=23\/p0=24\/p0=25\/p0=26\/p0=27\/p0=28\/p0=29\/p0=30\/p0=31\/p0=32\/p0=33\/p0=34:=by omega
    rcases this with rfl|rfl|rfl|rfl|rfl|rfl|rfl|rfl|rfl|rfl|rfl|rfl|rfl|rfl|rfl|rfl|rfl|rfl|rfl|rfl|rfl|rfl|rfl|rfl|rfl|rfl|rfl|rfl|rfl|rfl|rfl|rfl|rfl|rfl<;>(simp only[Jf.eq_1];rfl)
  .rw[Md ne,Qy ne]
def Qz:(ah0.all λs=>(mj s.1&&(mj s.2.1&&mj s.2.2))&&((!(s.1==45)||s.2.1==45)&&(!(s.2.1==45)||s.2.2==45)))=true:=by decide
def QA{p0:Int}{s:UInt8×UInt8×UInt8}(h:yL p0=some s):s∈ah0:=by
 unfold yL at h;split at h;.exact eQ h
 grind
def OV{p0:Int}{a b c:UInt8}(h:yL p0=some (a,b,c)):mj a=true/\mj b=true/\mj c=true:=by have:=fr.1 Qz _ (QA h)<;>grind
noncomputable def cnt(a b c:UInt8):Int:=if c≠45then 3 else if b≠45then 2 else if a≠45then 1 else 0
def ah1(a b c:UInt8):decide (cnt a b c<0)=false:=by unfold cnt<;>grind
def xe(N:Nat)(p0:Int):Jh N p0=some (match yL p0 with|some (a,b,c)=>((U a).1,(U a).2.1,(U a).2.2.1,(U a).2.2.2,(U b).1,(U b).2.1,(U b).2.2.1,(U b).2.2.2,(U c).1,(U c).2.1,(U c).2.2.1,(U c).2.2.2,cnt a b c)|none=>((0:Int),(0:Int),false,false,(0:Int),(0:Int),false,false,(0:Int),(0:Int),false,false,(-1:Int))):=by
  rcases Hw p0 with h|ne
  . have:p0=1\/p0=2\/p0=3\/p0=4\/p0=5\/p0=6\/p0=7\/p0=8\/p0=9\/p0=10\/p0=11\/p0=12\/p0=13\/p0=14\/p0=15\/p0=16\/p0=17\/p0=18\/p0=19\/p0=20\/p0=21\/p0=22\/p0=23\/p0=24\/p0=25\/p0=26\/p0=27\/p0=28\/p0=29\/p0=30\/p0=31\/p0=32\/p0=33\/p0=34:=by omega
    rcases this with rfl|rfl|rfl|rfl|rfl|rfl|rfl|rfl|rfl|rfl|rfl|rfl|rfl|rfl|rfl|rfl|rfl|rfl|rfl|rfl|rfl|rfl|rfl|rfl|rfl|rfl|rfl|rfl|rfl|rfl|rfl|rfl|rfl|rfl<;>(simp only[Jh.eq_1,zV.eq_1,abQ.eq_1,Ei.eq_1,uQ.eq_1,ae];rfl)
  .rw[OU ne,Qy ne]
def Me{p0:Int}{a b c:UInt8}(h:yL p0=some (a,b,c)):(a=45->b=45)/\(b=45->c=45):=by have:=fr.1 Qz _ (QA h)<;>grind
noncomputable def i64(v:Int):Prop:=-9223372036854775808<=v/\v<=9223372036854775807
noncomputable def fits(c:UInt8)(v:Int):Bool:=decide ((U c).1<=v)&&decide (v<=(U c).2.1)
noncomputable def e8(x:Instr):Bool:=match yL x.1with|some (a,b,c)=>fits a x.2.1&&(fits b x.2.2.1&&fits c x.2.2.2)|none=>false
noncomputable def okI(x:Instr):Prop:=i64 x.2.1/\i64 x.2.2.1/\i64 x.2.2.2
def ap1(c:UInt8)(v:Int):(decide (v<(U c).1)||decide (v>(U c).2.1))=!fits c v:=by unfold fits<;>grind
def YE{α:Type}(a:Bool)(x y:α):(bif !a then x else y)=bif a then y else x:=by grind
def vB(N:Nat)(x:Instr):L3 N (x.1,x.2.1,x.2.2.1,x.2.2.2)=some (bif e8 x then 0 else 8):=by rw[L3.eq_1,xe];unfold e8;cases yL x.1with|none=>rfl|some s=>obtain⟨a,b,c⟩:=s;simp only[LZ.eq_1,ae,ah1,af,dL,ap1]<;>grind
def ah2(v:Int)(lo n:Int):(decide (v>=lo)&&decide (v<n))=(decide (lo<=v)&&decide (v<=n-1)):=by grind
def zZ{N:Nat}{c:UInt8}{v:Int}(hc:mj c=true)(hv:i64 v):OD N ((c.toNat:Int),v)=some (fits c v):=by
 have h:c=119\/c=114\/c=110\/c=116\/c=99\/c=98\/c=102\/c=105\/c=103\/c=101\/c=45:=by simpa[mj]using hc
 rw[OD.eq_1];simp[gE,dL,abY,ae,ah2];rcases h with rfl|rfl|rfl|rfl|rfl|rfl|rfl|rfl|rfl|rfl|rfl;all_goals first
    |rfl|(simp[fits,U,hv.1,hv.2];done)
    | (show some (v==0)=some (decide (0<=v)&&decide (v<=0));by_cases h:v=0;.subst h;rfl
       . rw[show(v==0)=false by simpa using h];by_cases h1:0<=v;.simp[show¬v<=0 by omega]
         .simp[h1])
def Er(N:Nat){x:Instr}(hx:okI x):Sm N (x.1,x.2.1,x.2.2.1,x.2.2.2)=some (bif e8 x then 0 else 8):=by rw[Sm.eq_1,uX,ae,LK.eq_1];unfold e8;cases h:yL x.1with|none=>rfl|some s=>obtain⟨a,b,c⟩:=s;obtain⟨h1,h2,h3⟩:=OV h;have e0:idx [a,b,c] 0=some a:=rfl;have e1:idx [a,b,c] 1=some b:=rfl;have e2:idx [a,b,c] 2=some c:=rfl;simp only[show((([a,b,c]:List UInt8).length:Int)!=3)=false from rfl,af,e0,e1,e2,ae,zZ h1 hx.1,zZ h2 hx.2.1,zZ h3 hx.2.2,YE]<;>grind
end Go.Proofs.YtgdkmdochlhhlaaGreat
namespace Go.Sym
open Go Go.bL
def aC{α:Type}{l:List α}{i:Nat}{x:α}(h:l[i]?=some x):i<l.length:=(ci.1 h).1
def aX{α:Type}{l:List α}{i:Nat}{x:α}(h:l[i]?=some x):x∈l:=eQ h
def take_succ{α:Type}{l:List α}{i:Nat}{x:α}(h:l[i]?=some x):l.take (i+1)=l.take i++[x]:=by obtain⟨h1,h2⟩:=ci.1 h;rw[List.take_succ_eq_append_getElem h1,h2]
def ak{n b:Nat}(h1:n<=10000000)(h2:b<=1000):room n b=true:=by refine Qx (by omega) ?_;have:=Nat.mul_le_mul h1 h2;omega
def jq{α:Type}{l:List α}{i:Nat}(h:i<l.length):∃x,l[i]?=some x:=⟨_,aw h⟩
open Classical in theorem gS{β:Type}{n:Nat}{a b:β}{q:Nat->Bool}{Lf:Nat->Int->Option β}(h0:∀k,(∀j,j<n->q j=false)->Lf (k+1) (n:Int)=some a)(hs:∀(k i:Nat),i<n->(∀j,j<i->q j=false)->Lf (k+1) (i:Int)=if q i=true then some b else Lf k ((i+1:Nat):Int)){k:Nat}(hk:n<k):Lf k 0=some (if∃i,i<n/\q i=true then b else a):=by
 have key:∀k i,i<=n->n-i<k->(∀j,j<i->q j=false)->Lf k (i:Int)=some (if∃j,j<n/\q j=true then b else a):=by intro k;induction k with|zero=>omega|succ k ih=>
   intro i hi hk hq;by_cases he:i=n;.subst he;rw[h0 k hq,bi (λ⟨j,h1,h2⟩=>by rw[hq j h1]at h2;cases h2)]
   .rw[hs k i (by omega) hq];by_cases hb:q i=true;.rw[ba hb,ba ⟨i,by omega,hb⟩]
    .rw[bi hb];refine ih (i+1) (by omega) (by omega) λj hj=>?_;by_cases hji:j=i;.subst hji;simpa using hb
     .exact hq j (by omega)
 exact key k 0 (by omega) (by omega) λj hj=>by omega
open Classical in theorem gw{α β:Type}{l:List α}{a b:β}{p:α->Bool}{Lf:Nat->Int->Option β}(h0:∀k,(∀x,x∈l->p x=false)->Lf (k+1) (l.length:Int)=some a)(hs:∀(k i:Nat)x,l[i]?=some x->x∈l->Lf (k+1) (i:Int)=if p x=true then some b else Lf k ((i+1:Nat):Int)){k:Nat}(hk:l.length<k):Lf k 0=some (if∃x,x∈l/\p x=true then b else a):=by
 rw[gS (n:=l.length) (a:=a) (b:=b) (q:=λi=>((l[i]?).map p).getD false) (Lf:=Lf) (λk hq=>h0 k λx hx=>?_) (λk i hi _=>?_) hk];.have hiff:(∃i,i<l.length/\((l[i]?).map p).getD false=true)↔∃x,x∈l/\p x=true:=⟨λ⟨i,h1,h2⟩=>by obtain⟨x,hx⟩:=jq h1;rw[hx]at h2;exact⟨x,aX hx,h2⟩,λ⟨x,h1,h2⟩=>by obtain⟨i,h3,rfl⟩:=im.1 h1;exact⟨i,h3,by rw[aw h3];exact h2⟩⟩;simp_all
 .obtain⟨i,h3,rfl⟩:=im.1 hx<;>grind
 grind
def iC{α β γ:Type}{l:List α}{Lf:Nat->Int->List γ->Option β}{enc:α->List γ}{g:List γ->β}{B m:Nat}(h0:∀k s,Lf (k+1) (l.length:Int) s=some (g s))(hs:∀k(i:Nat)x s,l[i]?=some x->x∈l->s.length<=B->Lf (k+1) (i:Int) s=Lf k ((i+1:Nat):Int) (s++enc x))(hm:∀x,x∈l->(enc x).length<=m){k:Nat}{s:List γ}(hk:l.length<k)(hB:s.length+l.length*m<=B):Lf k 0 s=some (g (s++l.flatMap enc)):=by
 have key:∀k(i:Nat)s,i<=l.length->l.length-i<k->s.length+(l.length-i)*m<=B->Lf k (i:Int) s=some (g (s++(l.drop i).flatMap enc)):=by intro k;induction k with|zero=>omega|succ k ih=>
   intro i s hi hk hB;by_cases he:i=l.length;.grind
   .have hl:i<l.length:=by omega
    have e1:=aw hl;have T8:=hm _ (i9 hl);have e3:(l.length-i)*m=m+(l.length-(i+1))*m:=by rw[show l.length-i=1+(l.length-(i+1))by omega,d9,Do]
    rw[hs k i _ s e1 (i9 hl) (by omega),ih (i+1) _ (by omega) (by omega) (by rw[bb];omega)];rw[gg hl,d8,bj]
 have:=key k 0 s (by omega) (by omega) (by rw[yk];exact hB)<;>grind
def iI{α γ:Type}{l:List α}{enc:α->List γ}{m:Nat}(h:∀x,x∈l->(enc x).length<=m):(l.flatMap enc).length<=l.length*m:=by induction l with|nil=>simp|cons x r ih=>rw[d8,bb,fa,d9]<;>grind
def gx{α σ β:Type}{l:List α}{Lf:Nat->Int->σ->Option β}{Inv:Nat->σ->Prop}{g:σ->β}(h0:∀k s,Inv l.length s->Lf (k+1) (l.length:Int) s=some (g s))(hs:∀k(i:Nat)x s,l[i]?=some x->Inv i s->∃s',Inv (i+1) s'/\Lf (k+1) (i:Int) s=Lf k ((i+1:Nat):Int) s'){k:Nat}{s:σ}(h:Inv 0 s)(hk:l.length<k):∃s',Inv l.length s'/\Lf k 0 s=some (g s'):=by
 have key:∀k(i:Nat)s,i<=l.length->l.length-i<k->Inv i s->∃s',Inv l.length s'/\Lf k (i:Int) s=some (g s'):=by intro k;induction k with|zero=>omega|succ k ih=>
  intro i s hi hk hI;by_cases he:i=l.length;.grind
  .obtain⟨s',h1,h2⟩:=hs k i _ s (aw (by omega)) hI<;>grind
 exact key k 0 s (by omega) (by omega) h
def dM{α σ β:Type}{l:List α}{Lf:Nat->Int->σ->Option β}{Inv:Nat->σ->Prop}{Out:β->Prop}{g:σ->β}(h0:∀k s,Inv l.length s->Lf (k+1) (l.length:Int) s=some (g s))(hs:∀k(i:Nat)x s,l[i]?=some x->Inv i s->(∃r,Out r/\Lf (k+1) (i:Int) s=some r)\/∃s',Inv (i+1) s'/\Lf (k+1) (i:Int) s=Lf k ((i+1:Nat):Int) s'){k:Nat}{s:σ}(h:Inv 0 s)(hk:l.length<k):(∃r,Out r/\Lf k 0 s=some r)\/∃s',Inv l.length s'/\Lf k 0 s=some (g s'):=by
 have key:∀k(i:Nat)s,i<=l.length->l.length-i<k->Inv i s->(∃r,Out r/\Lf k (i:Int) s=some r)\/∃s',Inv l.length s'/\Lf k (i:Int) s=some (g s'):=by intro k;induction k with|zero=>omega|succ k ih=>
  intro i s hi hk hI;by_cases he:i=l.length;.grind
  .rcases hs k i _ s (aw (by omega)) hI with h|⟨s',h1,h2⟩<;>grind
 exact key k 0 s (by omega) (by omega) h
def yM:Nat->Nat->List Int|0,n=>[(n:Int)]|k+1,n=>if n<128then[(n:Int)]else((n%128+128:Nat):Int)::yM k (n/128)
def V(n:Nat):List Int:=yM 9 n
def Mf:∀k n,1<=(yM k n).length/\(yM k n).length<=k+1|0,n=>by simp[yM]|k+1,n=>by have:=Mf k (n/128)<;>grind[yM]
def dg(n:Nat):1<=(V n).length/\(V n).length<=10:=Mf 9 n
def sH(n:Nat):wu8 (n:Int)=((n%256:Nat):Int):=by show IntKind.u8.wrap (n:Int)=_;rw[IntKind.wrap_u8];omega
def nZ{n:Nat}(h:n<18446744073709551616):aS (n:Int)=(n:Int):=aZ (by omega)
def YF:∀a:Nat,a<256->DW .u8 ((a:Nat):Int) (128:Int)=((a%128+128:Nat):Int):=by decide+kernel
def yN(a b:Nat):Int.fdiv (a:Int) (b:Int)=((a/b:Nat):Int):=by grind
def Mg(a b:Nat):Int.tdiv (a:Int) (b:Int)=((a/b:Nat):Int):=by rfl
def Mh(a b:Nat):Int.tmod (a:Int) (b:Int)=((a%b:Nat):Int):=by rfl
def JP(n:Int):Nat:=if 0<=n then(2*n).toNat else(-2*n-1).toNat
def OW{n:Int}(h:-9223372036854775808<=n/\n<=9223372036854775807):JP n<18446744073709551616:=by grind[JP]
def QB{α:Type}{p q:Prop}{ip:Decidable p}{iq:Decidable q}{a b:α}(h:p↔q):@ite α p ip a b=@ite α q iq a b:=by grind
def aT{p:Prop}{i:Decidable p}(h:p):@decide p i=true:=bo h
def aM{p:Prop}{i:Decidable p}(h:¬p):@decide p i=false:=bv h
def YG{a b:Nat}(h:a+b<=9223372036854775807):av ((a:Int)+(b:Int))=((a+b:Nat):Int):=by rw[aQ (by omega)];rfl
def di(s:List UInt8):(bP s).length=s.length:=by simp[bP]
def abZ{α:Type}{l:List α}{i:Int}(h0:0<=i)(h:i<l.length):∃x,idx l i=some x/\x∈l/\l[i.toNat]?=some x:=by simp_all[idx]
end Go.Sym
namespace Go.Proofs.YtgdkmdochlhhlaaGreat
open Go Go.bL Go.Sym
def Hx(N:Nat):∀(j k n:Nat)(pre:List Int),n<128^(j+1)->j<k->pre.length+j<=1000->∃(m:Nat)(l:List Int),K9 N k ((n:Int),pre)=some ((m:Int),pre++l)/\yM j n=l++[(m:Int)]/\m<128/\l.length<=j
 |j,0,n,pre,_,h,_=>by omega|0,k+1,n,pre,hn,_,_=>by refine⟨n,[],?_,rfl,by omega,by simp⟩;rw[K9.eq_2,bv (by omega),af,dt]|j+1,k+1,n,pre,hn,hk,hp=>by
  rw[K9.eq_2];by_cases h:n<128;.refine⟨n,[],?_,by rw[yM,ba h];rfl,h,by simp⟩<;>grind
  .obtain⟨m,l,h1,h2,h3,h4⟩:=Hx N j k (n/128) (pre++[((n%128+128:Nat):Int)]) (by rw[Nat.pow_succ]at hn;omega) (by omega) (by simp;omega);refine⟨m,((n%128+128:Nat):Int)::l,?_,by rw[yM,bi h,h2];rfl,h3,by simp;omega⟩;rw[bo (by omega),au,ak (by omega) (by omega),sH,YF _ (ti _ (by omega)),show(128:Int)=((128:Nat):Int)from rfl,yN,show n%256%128=n%128by omega,h1,bj];rfl
def yO{N n:Nat}(hN:20<N)(hn:n<18446744073709551616):iD N (n:Int)=some (V n):=by
 rw[iD.eq_1];unfold V;by_cases h:n<128;.rw[bv (by omega),af,ak (by omega) (by omega),aj,yM,ba h,sH,qr (by omega)]
 .rw[bo (by omega),au,ak (by omega) (by omega),aj];obtain⟨m,l,h1,h2,h3,h4⟩:=Hx N 8 N (n/128) [((n%128+128:Nat):Int)] (by omega) (by omega) (by simp);rw[sH,YF _ (ti _ (by omega)),show(128:Int)=((128:Nat):Int)from rfl,yN,show n%256%128=n%128by omega,h1,ae,ak (by simp;omega) (by omega),aj,yM,bi h,h2,sH,show m%256=m by omega];rfl
def yP(N:Nat):∀(j k n:Nat)(pre:List Int),n<128^(j+1)->n<18446744073709551616->j<k->pre.length+j<=1000->∃(m:Nat)(l:List Int),EQ N k ((n:Int),pre)=some ((m:Int),pre++l)/\yM j n=l++[(m:Int)]/\m<128/\l.length<=j
 |j,0,n,pre,_,_,h,_=>by omega|0,k+1,n,pre,hn,_,_,_=>by refine⟨n,[],?_,rfl,by omega,by simp⟩;rw[EQ.eq_2,bv (by omega),af,dt]|j+1,k+1,n,pre,hn,h64,hk,hp=>by
  rw[EQ.eq_2];by_cases h:n<128;.refine⟨n,[],?_,by rw[yM,ba h];rfl,h,by simp⟩;rw[bv (by omega),af,dt]
  .obtain⟨m,l,h1,h2,h3,h4⟩:=yP N j k (n/128) (pre++[((n%128+128:Nat):Int)]) (by rw[Nat.pow_succ]at hn;omega) (by omega) (by omega) (by simp;omega);refine⟨m,((n%128+128:Nat):Int)::l,?_,by rw[yM,bi h,h2];rfl,h3,by simp;omega⟩;have e:wu8 ((wu8 (Int.tmod (n:Int) (128:Int)))+(128:Int))=((n%128+128:Nat):Int):=by rw[show(128:Int)=((128:Nat):Int)from rfl,Mh,sH,show((n%128%256:Nat):Int)+((128:Nat):Int)=((n%128+128:Nat):Int)by omega,sH];omega
   rw[bo (by omega),au,ak (by omega) (by omega),aj,e,show(128:Int)=((128:Nat):Int)from rfl,Mg,nZ (by omega),h1,bj];rfl
def kX{N n:Nat}(hN:20<N)(hn:n<18446744073709551616):iQ N (n:Int)=some (V n):=by rw[iQ.eq_1];unfold V;obtain⟨m,l,h1,h2,h3,h4⟩:=yP N 9 N n [] (by omega) hn (by omega) (by simp);rw[h1,ae,ak (by simp;omega) (by omega),aj,h2,sH,show m%256=m by omega];rfl
def oT{N n:Nat}(hN:20<N)(hn:n<18446744073709551616):wT N (n:Int)=some (V n):=by rw[wT.eq_1,nZ hn,kX hN hn];rfl
noncomputable def said(s:List UInt8):List Int:=V s.length++bP s
def n4(s:List UInt8):(said s).length<=10+s.length:=by have:=dg s.length;rw[said,bb,di];omega
def Jk{N:Nat}{s:List UInt8}(hN:20<N)(hs:s.length<=1000000):OF N s=some (said s):=by have:=dg s.length;rw[OF.eq_1,nZ (by omega),kX hN (by omega),ae,ak (by rw[di];omega) (by omega)];rfl
def wrap_u64(n:Int):IntKind.u64.wrap n=n%18446744073709551616:=rfl
def YH{n:Int}(h:-9223372036854775808<=n/\n<=9223372036854775807):abD .u64 (aS ((aS n)*2)) (aS (Int.fdiv n 9223372036854775808))=(JP n:Int):=by
 unfold JP;by_cases h0:0<=n
 .rw[ba h0,aZ (n:=n) (by omega),rt _ (by omega),Int.ediv_eq_zero_of_lt h0 (by omega),aZ (n:=n*2) (by omega),aZ (n:=0) (by omega)];have e:n*2=(((2*n).toNat:Nat):Int):=by omega
  rw[e];unfold abD;have e2:(BitVec.ofInt IntKind.u64.bits (((2*n).toNat:Nat):Int)^^^BitVec.ofInt IntKind.u64.bits 0).toNat=(2*n).toNat:=by show(BitVec.ofInt 64 (((2*n).toNat:Nat):Int)^^^BitVec.ofInt 64 0).toNat=(2*n).toNat;grind
  rw[e2];exact aZ (by omega)
 .rw[bi h0];have e1:aS n=n+18446744073709551616:=by show IntKind.u64.wrap n=_;rw[wrap_u64];omega
  have e3:Int.fdiv n 9223372036854775808=-1:=by grind
  have e4:aS (-1)=18446744073709551615:=by decide
  have e5:aS ((n+18446744073709551616)*2)=((18446744073709551615-(-2*n-1).toNat:Nat):Int):=by show IntKind.u64.wrap _=_;rw[wrap_u64];omega
  rw[e1,e3,e4,e5];unfold abD;have hlt:(-2*n-1).toNat<18446744073709551616:=by omega
  generalize(-2*n-1).toNat=m at hlt;have e2:(BitVec.ofInt IntKind.u64.bits ((18446744073709551615-m:Nat):Int)^^^BitVec.ofInt IntKind.u64.bits 18446744073709551615).toNat=m:=by show(BitVec.ofInt 64 ((18446744073709551615-m:Nat):Int)^^^BitVec.ofInt 64 18446744073709551615).toNat=m;rw[show BitVec.ofInt 64 18446744073709551615=BitVec.allOnes 64from by decide,BitVec.xor_allOnes,BitVec.toNat_not,nz,ph];omega
  rw[e2];exact aZ (by omega)
def Hy{N:Nat}{n:Int}(hN:20<N)(h:-9223372036854775808<=n/\n<=9223372036854775807):sF N n=some (V (JP n)):=by rw[sF.eq_1,YH h,yO hN (OW h)];rfl
def Hz{N:Nat}{n:Int}(h:-9223372036854775808<=n/\n<=9223372036854775807):sC N n=some (JP n:Int):=by
 rw[sC.eq_1];unfold JP;by_cases h0:0<=n;.rw[bo h0,au,ba h0,aZ (n:=n) (by omega),aZ (by omega)]<;>grind
 .rw[bv h0,af,bi h0,aQ (n:=n+1) (by omega),aQ (n:=0-(n+1)) (by omega),aZ (n:=0-(n+1)) (by omega),aZ (n:=(0-(n+1))*2) (by omega),aZ (by omega)]<;>grind
def n5{N:Nat}{v:Int}(hN:20<N)(h:0<=v/\v<=9223372036854775807):iD N (aS v)=some (V v.toNat):=by obtain⟨n,rfl⟩:=dT h.1;rw[nZ (by omega),yO hN (by omega)];rfl
def BF{N:Nat}{v:Int}(hN:20<N)(h:0<=v/\v<=9223372036854775807):iQ N (aS v)=some (V v.toNat):=by obtain⟨n,rfl⟩:=dT h.1;rw[nZ (by omega),kX hN (by omega)];rfl
def pT{N:Nat}{v:Int}(hN:20<N)(h:0<=v/\v<=9223372036854775807):wT N v=some (V v.toNat):=by obtain⟨n,rfl⟩:=dT h.1;rw[oT hN (by omega)];rfl
def gT:((0:Int)!=(0:Int))=false:=rfl
noncomputable def tA(c:UInt8)(v:Int):List Int:=if c=45then[]else if c=110\/c=103\/c=101then V (JP v)else V v.toNat
noncomputable def encI(x:Instr):List Int:=match yL x.1with|some (a,b,c)=>x.1::(tA a x.2.1++(tA b x.2.2.1++tA c x.2.2.2))|none=>[x.1]
def pU(x:Instr):(encI x).length<=31:=by
 have hk:∀c v,(tA c v).length<=10:=λc v=>by
  unfold tA;split;.simp
  .split;.exact(dg _).2
   .exact(dg _).2
 unfold encI<;>grind
noncomputable def sgn(c:UInt8):Bool:=c==110||(c==103||c==101)
def Co{c:UInt8}:sgn c=true↔c=110\/c=103\/c=101:=by simp[sgn]
def QC(c:UInt8):decide ((U c).1<0)=sgn c:=by
 unfold U sgn;repeat' split
 all_goals first|(subst_vars;rfl)|(rename_i h1 h2 h3 h4 h5 h6 h7 h8 h9 h10;simp[h3,h9,h10])
def ap2(c:UInt8):((c.toNat:Int)==45)=(c==45):=by
 by_cases h:c=45;.subst h;rfl
 .rw[show(c==45)=false by simpa using h,ma];intro e;exact h (UInt8.toNat_inj.1 (by show c.toNat=45;omega))
def YI{N:Nat}{c:UInt8}(hc:mj c=true):vJ N ((c.toNat:Nat):Int)=some (sgn c):=by
 have h:c=119\/c=114\/c=110\/c=116\/c=99\/c=98\/c=102\/c=105\/c=103\/c=101\/c=45:=by simpa[mj]using hc
 rcases h with rfl|rfl|rfl|rfl|rfl|rfl|rfl|rfl|rfl|rfl|rfl<;>rfl
def yQ(v:Int):tA 45 v=[]:=rfl
def rL(c:UInt8)(v:Int):(tA c v).length<=10:=by
 unfold tA;split;.simp
 .split;.exact(dg _).2
  .exact(dg _).2
def Mi{c:UInt8}{v:Int}(h:fits c v=true)(hs:sgn c=false):0<=v:=by rw[<-QC,mr]at hs;unfold fits at h<;>grind
def Es{α β:Type}(c:Bool)(x y:Option α)(k:α->Option β):(bif c then Option.bind x k else Option.bind y k)=Option.bind (bif c then x else y) k:=by grind
def z7{α β γ:Type}(c:Bool)(x:Option γ)(f:γ->Option α)(y:Option α)(k:α->Option β):(bif c then Option.bind x (λu=>Option.bind (f u) k)else Option.bind y k)=Option.bind (bif c then Option.bind x f else y) k:=by grind
def opO{N:Nat}(hN:20<N){c:UInt8}{v:Int}(h:fits c v=true)(h45:c≠45)(hv:i64 v):(bif sgn c then sF N v else iD N (aS v))=some (tA c v):=by unfold tA;rw[bi h45];cases hs:sgn c with|true=>rw[au,ba (Co.1 hs),Hy hN hv]|false=>rw[af,bi (λe=>by rw[Co.2 e]at hs;cases hs),n5 hN ⟨Mi h hs,hv.2⟩]
def op6{N:Nat}(hN:20<N){c:UInt8}{v:Int}(h:fits c v=true)(h45:c≠45)(hv:i64 v):(bif sgn c then Option.bind (sC N v) (λu=>iQ N u)else iQ N (aS v))=some (tA c v):=by unfold tA;rw[bi h45];cases hs:sgn c with|true=>rw[au,ba (Co.1 hs),Hz hv,ae,kX hN (OW hv)]|false=>rw[af,bi (λe=>by rw[Co.2 e]at hs;cases hs),BF hN ⟨Mi h hs,hv.2⟩]
def QD{x:Instr}(hc:e8 x=true):∃a b c,yL x.1=some (a,b,c)/\fits a x.2.1=true/\fits b x.2.2.1=true/\fits c x.2.2.2=true:=by unfold e8 at hc<;>grind
def QE{a b c:UInt8}(h:(a=45->b=45)/\(b=45->c=45)):(a=45/\b=45/\c=45)\/(a≠45/\b=45/\c=45)\/(a≠45/\b≠45/\c=45)\/(a≠45/\b≠45/\c≠45):=by grind
def z8(c:UInt8)(v:Int):room (1+(tA c v).length) 1=true:=by have:=rL c v;exact ak (by omega) (by omega)
def Jl(p:Int)(c d:UInt8)(v w:Int):room (([p]++tA c v).length+(tA d w).length) 1=true:=by have:=rL c v;have:=rL d w;exact ak (by simp only[bb,dq];omega) (by omega)
def YJ(p:Int)(c d e:UInt8)(v w u:Int):room ((([p]++tA c v)++tA d w).length+(tA e u).length) 1=true:=by have:=rL c v;have:=rL d w;have:=rL e u;exact ak (by simp only[bb,dq];omega) (by omega)
def ab1{N:Nat}(hN:20<N){x:Instr}(hx:okI x)(hc:e8 x=true):Xs N (x.1,x.2.1,x.2.2.1,x.2.2.2)=some (encI x,0):=by
 rw[Xs.eq_1,vB,hc];obtain⟨a,b,c,hs,h1,h2,h3⟩:=QD hc;obtain⟨i1,i2,i3⟩:=hx;have g00:decide ((0:Int)>=0)=true:=rfl;have g01:decide ((0:Int)>=1)=false:=rfl;have g02:decide ((0:Int)>=2)=false:=rfl;have g03:decide ((0:Int)>=3)=false:=rfl;have g10:decide ((1:Int)>=0)=true:=rfl;have g11:decide ((1:Int)>=1)=true:=rfl;have g12:decide ((1:Int)>=2)=false:=rfl;have g13:decide ((1:Int)>=3)=false:=rfl;have g20:decide ((2:Int)>=0)=true:=rfl;have g21:decide ((2:Int)>=1)=true:=rfl;have g22:decide ((2:Int)>=2)=true:=rfl;have g23:decide ((2:Int)>=3)=false:=rfl;simp only[au,gT,af,ae,xe,hs,LZ.eq_1,encI,QC];rcases QE (Me hs)with⟨rfl,rfl,rfl⟩|⟨ha,rfl,rfl⟩|⟨ha,hb,rfl⟩|⟨ha,hb,hc⟩;.simp[show cnt 45 45 45=0from rfl,g00,g10,g20,au,yQ,dt]
 .simp only[show cnt a 45 45=1by simp[cnt,ha],g01,g11,g21,au,af,Es,opO hN h1 ha i1,ae,z8,aj,yQ,dt]<;>grind
 .simp only[show cnt a b 45=2by simp[cnt,hb],g02,g12,g22,au,af,Es,opO hN h1 ha i1,opO hN h2 hb i2,ae,z8,Jl,aj,yQ,dt]<;>grind
 .simp only[show cnt a b c=3by simp[cnt,hc],g03,g13,g23,af,Es,opO hN h1 ha i1,opO hN h2 hb i2,opO hN h3 hc i3,ae,z8,Jl,YJ,aj]<;>grind
def ah3{α:Type}(a b c:α):idx [a,b,c] 0=some a/\idx [a,b,c] 1=some b/\idx [a,b,c] 2=some c:=⟨rfl,rfl,rfl⟩
def OX{N:Nat}(hN:20<N){x:Instr}(hx:okI x)(hc:e8 x=true):V0 N (x.1,x.2.1,x.2.2.1,x.2.2.2)=some (encI x):=by
 rw[V0.eq_1,uX];obtain⟨a,b,c,hs,h1,h2,h3⟩:=QD hc;obtain⟨i1,i2,i3⟩:=hx;obtain⟨k1,k2,k3⟩:=OV hs;simp only[ae,hs,LK.eq_1,(ah3 a b c).1,(ah3 a b c).2.1,(ah3 a b c).2.2,ap2,YI k1,YI k2,YI k3,encI];rcases QE (Me hs)with⟨rfl,rfl,rfl⟩|⟨ha,rfl,rfl⟩|⟨ha,hb,rfl⟩|⟨ha,hb,hc⟩;.rfl
 .simp only[show(a==45)=false by simpa using ha,ib,au,af,z7,op6 hN h1 ha i1,ae,z8,aj,yQ];simp
 .simp only[show(a==45)=false by simpa using ha,show(b==45)=false by simpa using hb,ib,au,af,z7,op6 hN h1 ha i1,op6 hN h2 hb i2,ae,z8,Jl,aj,yQ];simp
 .simp only[show(a==45)=false by simpa using ha,show(b==45)=false by simpa using hb,show(c==45)=false by simpa using hc,af,z7,op6 hN h1 ha i1,op6 hN h2 hb i2,op6 hN h3 hc i3,ae,z8,Jl,YJ,aj];simp
end Go.Proofs.YtgdkmdochlhhlaaGreat
