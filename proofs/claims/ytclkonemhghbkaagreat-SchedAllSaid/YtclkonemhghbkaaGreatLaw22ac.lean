/- Parts of the proof. -/
import Derived.Test.YtclkonemhghbkaaGreatGen22aA
import Derived.Test.YtclkonemhghbkaaGreatTab22a
import Derived.IntWalk
set_option linter.unusedSimpArgs false
set_option linter.unusedVariables false
set_option linter.defProp false
namespace Go.Proofs.YtclkonemhghbkaaGreat
set_option linter.unusedVariables false
open Go Go.bK Go.Sym
noncomputable section
variable(A:Go.bK.Call)(N:Nat)
def Xi:=(G91 N).on 266 ⟨[.c (.sl bf .bG)],[tmf [.I]],0,[(0,15,51,.bool)],[],[],[]⟩
def Ok:Nat->Int×List Instr×Int×Int->Option (Int⊕Unit)|0,_=>none|k+1,(b,d,e,c)=>cond (c<e) ((idx d c).bind λa=>(LO N (a.1,a.2.1,a.2.2.1,a.2.2.2)).bind λf=>cond (f !=0) (some (Sum.inl 8)) ((cond (a.1==22) (cond (a.2.1>=b) (some true) (cond (a.1==23) (some (decide (a.2.2.1>=b))) (some false))) (cond (a.1==23) (some (decide (a.2.2.1>=b))) (some false))).bind λg=>cond g (some (Sum.inl 8)) (Ok k (b,d,e,(av (c+1)))))) (some (Sum.inr ()))
def auo:=(Xi N).l N 7 (tmn [(3,.I),(23,.c (.sl bf .bG)),(24,.I),(25,.I)]) [tmr [(2,.I)],tmx]
theorem ao6:lpT (auo N) (Ok N):=lpI
def Ou:List Instr->Option Int|a=>cond ((a.length:Int)==0) (some 8) (cond ((a.length:Int)>200) (some 8) ((idx a (av ((a.length:Int)-1))).bind λb=>cond (!(b.1==34&&(b.2.1==(-1)&&(b.2.2.1==0&&(b.2.2.2==0&&true))))) (some 8) ((Ok N N ((a.length:Int),a,(a.length:Int),0)).bind λc=>match c with|.inl d=>d|.inr e=>some 0)))
def ani:=(auo N).p (Ou N) (by delta Ou;rw[ao6 N N];kernel_rfl)
def Ov(N:Nat):List Instr×Int->Option tmI|(c,b)=>(idx c b).bind λa=>(cond (a.1==34) (some true) ((cond (a.1==28) (some true) (some (a.1==30))).bind λd=>some d)).bind λe=>cond e (some []) (cond (a.1==22) (some [a.2.1]) (cond (a.1==23) (aL (decide ([(av (b+1)),a.2.2.1].length<4611686018427387904)) (aL (decide ((j4 [(av (b+1)),a.2.2.1]).length<4611686018427387904)) (some (j5 (j4 [(av (b+1)),a.2.2.1]))))) (some [(av (b+1))])))
def agW:=((ani N).on 342 ⟨[.c (.sl bf .bG),.I],[tmf [.D .I]],0,[(0,7,13,.bool),(0,5,13,.bool)],[],[(0,21,.I),(0,28,.I),(0,35,.I)],[]⟩).p (Ov N)
def Xj:=(agW N).on 192 ⟨[.c (.sl bf .bG)],[tmf [.D .bool],tmf [.I]],0,[],[],[(0,13,.bool),(1016000,10,.I),(1016000,39,.I)],[]⟩
def mO(N:Nat):Nat->List Instr×Int×tmI×Int×Int×List Bool×tmI->Option (List Instr×List Bool×tmI)|0,_=>none|k+1,(e,h,f,g,c,a,d)=>cond (c<g) ((idx f c).bind λb=>aL (gB b a.length) ((a[b.toNat]?).bind λi=>aL (gB b a.length) ((a[b.toNat]?).bind λj=>cond (!i) (aL (room (d.length+1) 8) (mO N k (e,h,f,g,(av (c+1)),(a.set b.toNat true),(d++[b])))) (mO N k (e,h,f,g,(av (c+1)),(a.set b.toNat true),d))))) (e,a,d)
def Xk:=(Xj N).L N 1016000 11 267 11 (tm [(0,.c (.sl bf .bG)),(1,.fG 268 [.P 0 5 0]),(4,.R 1 10 1 .I),(5,.I),(27,.D .I),(28,.I),(29,.I)] [[(5,.P 0 5 0)]] [(0,5,.box 0 [.ref 0 13 2 .bool]),(0,13,.row 2 .bool),(1,10,.row 1 .I)] 2 [] 3) [(.exit 2,tm [(0,.c (.sl bf .bG)),(1,.fG 268 [.P 0 5 0]),(4,.R 1 10 1 .I)] [[(5,.P 0 5 0)]] [(0,5,.box 0 [.ref 0 13 2 .bool]),(0,13,.row 2 .bool),(1,10,.row 1 .I)] 2 [] 3)]
theorem ao7:lpT (Xk N) (mO N):=lpI
def mP:Nat->List Instr×List Bool×tmI->Option (List Bool)|0,_=>none|k+1,(c,d,a)=>cond ((a.length:Int)>0) (aL (gB (av ((a.length:Int)-1)) a.length) ((a[(Int.toNat (av ((a.length:Int)-1)))]?).bind λe=>aL (decide (0<=(av ((a.length:Int)-1)))) (aL (decide ((Int.toNat (av ((a.length:Int)-1)))<=a.length)) ((Ov N (c,e)).bind λf=>(mO N N (c,e,f,(f.length:Int),0,d,(a.take (Int.toNat (av ((a.length:Int)-1)))))).bind λb=>mP k (b.1,b.2.1,b.2.2))))) d
def aup:=(Xk N).L N 1016000 3 267 3 (tm [(0,.c (.sl bf .bG)),(1,.fG 268 [.P 0 5 0]),(4,.R 1 10 1 .I)] [[(5,.P 0 5 0)]] [(0,5,.box 0 [.ref 0 13 2 .bool]),(0,13,.row 2 .bool),(1,10,.row 1 .I)] 2 [] 3) [(.exit 0,tm [] [[(5,.P 0 5 0)]] [(0,5,.box 0 [.ref 0 13 1 .bool]),(0,13,.row 1 .bool)] 2 [] 2)]
theorem ao8:lpT (aup N) (mP N):=lpJ λk=>funext λ⟨a,b,c⟩=>by rw[mP,ao7 N N];kernel_rfl
def Xl:List Instr->Option (List Bool×Int)|a=>(Ou N a).bind λc=>cond (c !=0) (some ([],c)) (aL (decide (0<=(a.length:Int))) (aL (decide (0<=(a.length:Int))) (aL (decide ((Int.toNat (a.length:Int))<=(Int.toNat (a.length:Int)))&&room (Int.toNat (a.length:Int)) 1) (aL (gB 0 (List.replicate (Int.toNat (a.length:Int)) false).length) (((List.replicate (Int.toNat (a.length:Int)) false)[(Int.toNat 0)]?).bind λd=>aL (gB 0 (List.replicate (Int.toNat (a.length:Int)) false).length) (((List.replicate (Int.toNat (a.length:Int)) false)[(Int.toNat 0)]?).bind λe=>(mP N N (a,((List.replicate (Int.toNat (a.length:Int)) false).set (Int.toNat 0) true),[0])).bind λb=>aL (gB (av ((b.length:Int)-1)) b.length) ((b[(Int.toNat (av ((b.length:Int)-1)))]?).bind λf=>some ((b.set (Int.toNat (av ((b.length:Int)-1))) true),0))))))))
def anm:=(aup N).p (Xl N) (by delta Xl;rw[ao8 N N];kernel_rfl)
def Ox:iN->Option (tmI×tmI×Int)|(c,d,e,f)=>(LO N (c,d,e,f)).bind λg=>cond (g !=0) (some (([]:tmI),[],g)) ((I9 N c).bind λb=>(LN N (c,d,e,f)).bind λa=>(cond b.2.2.1 (some (decide (a.1>=0))) (some false)).bind λh=>cond h (aL (room (0+1) 8) ((cond b.2.2.2.1 (some (decide (a.1>=0))) (some false)).bind λi=>cond i (aL (room 1 8) ((cond b.2.2.2.2.2.2.1 (some (decide (a.2.1>=0))) (some false)).bind λj=>cond j (aL (room (1+1) 8) ((cond b.2.2.2.2.2.2.2.1 (some (decide (a.2.1>=0))) (some false)).bind λl=>cond l (aL (room (1+1) 8) ((cond b.2.2.2.2.2.2.2.2.2.2.1 (some (decide (a.2.2>=0))) (some false)).bind λm=>cond m (aL (room (2+1) 8) ((cond b.2.2.2.2.2.2.2.2.2.2.2.1 (some (decide (a.2.2>=0))) (some false)).bind λn=>cond n (aL (room (2+1) 8) (some ((((([]:tmI)++[a.1])++[a.2.1])++[a.2.2]),(([a.1]++[a.2.1])++[a.2.2]),0))) (some ((((([]:tmI)++[a.1])++[a.2.1])++[a.2.2]),([a.1]++[a.2.1]),0)))) ((cond b.2.2.2.2.2.2.2.2.2.2.2.1 (some (decide (a.2.2>=0))) (some false)).bind λo=>cond o (aL (room (2+1) 8) (some (((([]:tmI)++[a.1])++[a.2.1]),(([a.1]++[a.2.1])++[a.2.2]),0))) (some (((([]:tmI)++[a.1])++[a.2.1]),([a.1]++[a.2.1]),0))))) ((cond b.2.2.2.2.2.2.2.2.2.2.1 (some (decide (a.2.2>=0))) (some false)).bind λp=>cond p (aL (room (2+1) 8) ((cond b.2.2.2.2.2.2.2.2.2.2.2.1 (some (decide (a.2.2>=0))) (some false)).bind λq=>cond q (aL (room (1+1) 8) (some ((((([]:tmI)++[a.1])++[a.2.1])++[a.2.2]),([a.1]++[a.2.2]),0))) (some ((((([]:tmI)++[a.1])++[a.2.1])++[a.2.2]),[a.1],0)))) ((cond b.2.2.2.2.2.2.2.2.2.2.2.1 (some (decide (a.2.2>=0))) (some false)).bind λr=>cond r (aL (room (1+1) 8) (some (((([]:tmI)++[a.1])++[a.2.1]),([a.1]++[a.2.2]),0))) (some (((([]:tmI)++[a.1])++[a.2.1]),[a.1],0)))))) ((cond b.2.2.2.2.2.2.2.1 (some (decide (a.2.1>=0))) (some false)).bind λs=>cond s (aL (room (1+1) 8) ((cond b.2.2.2.2.2.2.2.2.2.2.1 (some (decide (a.2.2>=0))) (some false)).bind λt=>cond t (aL (room (1+1) 8) ((cond b.2.2.2.2.2.2.2.2.2.2.2.1 (some (decide (a.2.2>=0))) (some false)).bind λu=>cond u (aL (room (2+1) 8) (some (((([]:tmI)++[a.1])++[a.2.2]),(([a.1]++[a.2.1])++[a.2.2]),0))) (some (((([]:tmI)++[a.1])++[a.2.2]),([a.1]++[a.2.1]),0)))) ((cond b.2.2.2.2.2.2.2.2.2.2.2.1 (some (decide (a.2.2>=0))) (some false)).bind λv=>cond v (aL (room (2+1) 8) (some ((([]:tmI)++[a.1]),(([a.1]++[a.2.1])++[a.2.2]),0))) (some ((([]:tmI)++[a.1]),([a.1]++[a.2.1]),0))))) ((cond b.2.2.2.2.2.2.2.2.2.2.1 (some (decide (a.2.2>=0))) (some false)).bind λw=>cond w (aL (room (1+1) 8) ((cond b.2.2.2.2.2.2.2.2.2.2.2.1 (some (decide (a.2.2>=0))) (some false)).bind λx=>cond x (aL (room (1+1) 8) (some (((([]:tmI)++[a.1])++[a.2.2]),([a.1]++[a.2.2]),0))) (some (((([]:tmI)++[a.1])++[a.2.2]),[a.1],0)))) ((cond b.2.2.2.2.2.2.2.2.2.2.2.1 (some (decide (a.2.2>=0))) (some false)).bind λy=>cond y (aL (room (1+1) 8) (some ((([]:tmI)++[a.1]),([a.1]++[a.2.2]),0))) (some ((([]:tmI)++[a.1]),[a.1],0))))))) ((cond b.2.2.2.2.2.2.1 (some (decide (a.2.1>=0))) (some false)).bind λz=>cond z (aL (room (1+1) 8) ((cond b.2.2.2.2.2.2.2.1 (some (decide (a.2.1>=0))) (some false)).bind λA=>cond A (aL (room 1 8) ((cond b.2.2.2.2.2.2.2.2.2.2.1 (some (decide (a.2.2>=0))) (some false)).bind λB=>cond B (aL (room (2+1) 8) ((cond b.2.2.2.2.2.2.2.2.2.2.2.1 (some (decide (a.2.2>=0))) (some false)).bind λC=>cond C (aL (room (1+1) 8) (some ((((([]:tmI)++[a.1])++[a.2.1])++[a.2.2]),([a.2.1]++[a.2.2]),0))) (some ((((([]:tmI)++[a.1])++[a.2.1])++[a.2.2]),[a.2.1],0)))) ((cond b.2.2.2.2.2.2.2.2.2.2.2.1 (some (decide (a.2.2>=0))) (some false)).bind λD=>cond D (aL (room (1+1) 8) (some (((([]:tmI)++[a.1])++[a.2.1]),([a.2.1]++[a.2.2]),0))) (some (((([]:tmI)++[a.1])++[a.2.1]),[a.2.1],0))))) ((cond b.2.2.2.2.2.2.2.2.2.2.1 (some (decide (a.2.2>=0))) (some false)).bind λE=>cond E (aL (room (2+1) 8) ((cond b.2.2.2.2.2.2.2.2.2.2.2.1 (some (decide (a.2.2>=0))) (some false)).bind λG=>cond G (aL (room 1 8) (some ((((([]:tmI)++[a.1])++[a.2.1])++[a.2.2]),[a.2.2],0))) (some ((((([]:tmI)++[a.1])++[a.2.1])++[a.2.2]),[],0)))) ((cond b.2.2.2.2.2.2.2.2.2.2.2.1 (some (decide (a.2.2>=0))) (some false)).bind λH=>cond H (aL (room 1 8) (some (((([]:tmI)++[a.1])++[a.2.1]),[a.2.2],0))) (some (((([]:tmI)++[a.1])++[a.2.1]),[],0)))))) ((cond b.2.2.2.2.2.2.2.1 (some (decide (a.2.1>=0))) (some false)).bind λI=>cond I (aL (room 1 8) ((cond b.2.2.2.2.2.2.2.2.2.2.1 (some (decide (a.2.2>=0))) (some false)).bind λJ=>cond J (aL (room (1+1) 8) ((cond b.2.2.2.2.2.2.2.2.2.2.2.1 (some (decide (a.2.2>=0))) (some false)).bind λK=>cond K (aL (room (1+1) 8) (some (((([]:tmI)++[a.1])++[a.2.2]),([a.2.1]++[a.2.2]),0))) (some (((([]:tmI)++[a.1])++[a.2.2]),[a.2.1],0)))) ((cond b.2.2.2.2.2.2.2.2.2.2.2.1 (some (decide (a.2.2>=0))) (some false)).bind λL=>cond L (aL (room (1+1) 8) (some ((([]:tmI)++[a.1]),([a.2.1]++[a.2.2]),0))) (some ((([]:tmI)++[a.1]),[a.2.1],0))))) ((cond b.2.2.2.2.2.2.2.2.2.2.1 (some (decide (a.2.2>=0))) (some false)).bind λM=>cond M (aL (room (1+1) 8) ((cond b.2.2.2.2.2.2.2.2.2.2.2.1 (some (decide (a.2.2>=0))) (some false)).bind λO=>cond O (aL (room 1 8) (some (((([]:tmI)++[a.1])++[a.2.2]),[a.2.2],0))) (some (((([]:tmI)++[a.1])++[a.2.2]),[],0)))) ((cond b.2.2.2.2.2.2.2.2.2.2.2.1 (some (decide (a.2.2>=0))) (some false)).bind λP=>cond P (aL (room 1 8) (some ((([]:tmI)++[a.1]),[a.2.2],0))) (some ((([]:tmI)++[a.1]),[],0)))))))) ((cond b.2.2.2.1 (some (decide (a.1>=0))) (some false)).bind λQ=>cond Q (aL (room 1 8) ((cond b.2.2.2.2.2.2.1 (some (decide (a.2.1>=0))) (some false)).bind λR=>cond R (aL (room (0+1) 8) ((cond b.2.2.2.2.2.2.2.1 (some (decide (a.2.1>=0))) (some false)).bind λS=>cond S (aL (room (1+1) 8) ((cond b.2.2.2.2.2.2.2.2.2.2.1 (some (decide (a.2.2>=0))) (some false)).bind λT=>cond T (aL (room (1+1) 8) ((cond b.2.2.2.2.2.2.2.2.2.2.2.1 (some (decide (a.2.2>=0))) (some false)).bind λU=>cond U (aL (room (2+1) 8) (some (((([]:tmI)++[a.2.1])++[a.2.2]),(([a.1]++[a.2.1])++[a.2.2]),0))) (some (((([]:tmI)++[a.2.1])++[a.2.2]),([a.1]++[a.2.1]),0)))) ((cond b.2.2.2.2.2.2.2.2.2.2.2.1 (some (decide (a.2.2>=0))) (some false)).bind λV=>cond V (aL (room (2+1) 8) (some ((([]:tmI)++[a.2.1]),(([a.1]++[a.2.1])++[a.2.2]),0))) (some ((([]:tmI)++[a.2.1]),([a.1]++[a.2.1]),0))))) ((cond b.2.2.2.2.2.2.2.2.2.2.1 (some (decide (a.2.2>=0))) (some false)).bind λW=>cond W (aL (room (1+1) 8) ((cond b.2.2.2.2.2.2.2.2.2.2.2.1 (some (decide (a.2.2>=0))) (some false)).bind λX=>cond X (aL (room (1+1) 8) (some (((([]:tmI)++[a.2.1])++[a.2.2]),([a.1]++[a.2.2]),0))) (some (((([]:tmI)++[a.2.1])++[a.2.2]),[a.1],0)))) ((cond b.2.2.2.2.2.2.2.2.2.2.2.1 (some (decide (a.2.2>=0))) (some false)).bind λY=>cond Y (aL (room (1+1) 8) (some ((([]:tmI)++[a.2.1]),([a.1]++[a.2.2]),0))) (some ((([]:tmI)++[a.2.1]),[a.1],0)))))) ((cond b.2.2.2.2.2.2.2.1 (some (decide (a.2.1>=0))) (some false)).bind λZ=>cond Z (aL (room (1+1) 8) ((cond b.2.2.2.2.2.2.2.2.2.2.1 (some (decide (a.2.2>=0))) (some false)).bind λa0=>cond a0 (aL (room (0+1) 8) ((cond b.2.2.2.2.2.2.2.2.2.2.2.1 (some (decide (a.2.2>=0))) (some false)).bind λa1=>cond a1 (aL (room (2+1) 8) (some ((([]:tmI)++[a.2.2]),(([a.1]++[a.2.1])++[a.2.2]),0))) (some ((([]:tmI)++[a.2.2]),([a.1]++[a.2.1]),0)))) ((cond b.2.2.2.2.2.2.2.2.2.2.2.1 (some (decide (a.2.2>=0))) (some false)).bind λa2=>cond a2 (aL (room (2+1) 8) (some (([]:tmI),(([a.1]++[a.2.1])++[a.2.2]),0))) (some (([]:tmI),([a.1]++[a.2.1]),0))))) ((cond b.2.2.2.2.2.2.2.2.2.2.1 (some (decide (a.2.2>=0))) (some false)).bind λa3=>cond a3 (aL (room (0+1) 8) ((cond b.2.2.2.2.2.2.2.2.2.2.2.1 (some (decide (a.2.2>=0))) (some false)).bind λa4=>cond a4 (aL (room (1+1) 8) (some ((([]:tmI)++[a.2.2]),([a.1]++[a.2.2]),0))) (some ((([]:tmI)++[a.2.2]),[a.1],0)))) ((cond b.2.2.2.2.2.2.2.2.2.2.2.1 (some (decide (a.2.2>=0))) (some false)).bind λa5=>cond a5 (aL (room (1+1) 8) (some (([]:tmI),([a.1]++[a.2.2]),0))) (some (([]:tmI),[a.1],0))))))) ((cond b.2.2.2.2.2.2.1 (some (decide (a.2.1>=0))) (some false)).bind λa6=>cond a6 (aL (room (0+1) 8) ((cond b.2.2.2.2.2.2.2.1 (some (decide (a.2.1>=0))) (some false)).bind λa7=>cond a7 (aL (room 1 8) ((cond b.2.2.2.2.2.2.2.2.2.2.1 (some (decide (a.2.2>=0))) (some false)).bind λa8=>cond a8 (aL (room (1+1) 8) ((cond b.2.2.2.2.2.2.2.2.2.2.2.1 (some (decide (a.2.2>=0))) (some false)).bind λa9=>cond a9 (aL (room (1+1) 8) (some (((([]:tmI)++[a.2.1])++[a.2.2]),([a.2.1]++[a.2.2]),0))) (some (((([]:tmI)++[a.2.1])++[a.2.2]),[a.2.1],0)))) ((cond b.2.2.2.2.2.2.2.2.2.2.2.1 (some (decide (a.2.2>=0))) (some false)).bind λb0=>cond b0 (aL (room (1+1) 8) (some ((([]:tmI)++[a.2.1]),([a.2.1]++[a.2.2]),0))) (some ((([]:tmI)++[a.2.1]),[a.2.1],0))))) ((cond b.2.2.2.2.2.2.2.2.2.2.1 (some (decide (a.2.2>=0))) (some false)).bind λb1=>cond b1 (aL (room (1+1) 8) ((cond b.2.2.2.2.2.2.2.2.2.2.2.1 (some (decide (a.2.2>=0))) (some false)).bind λb2=>cond b2 (aL (room 1 8) (some (((([]:tmI)++[a.2.1])++[a.2.2]),[a.2.2],0))) (some (((([]:tmI)++[a.2.1])++[a.2.2]),[],0)))) ((cond b.2.2.2.2.2.2.2.2.2.2.2.1 (some (decide (a.2.2>=0))) (some false)).bind λb3=>cond b3 (aL (room 1 8) (some ((([]:tmI)++[a.2.1]),[a.2.2],0))) (some ((([]:tmI)++[a.2.1]),[],0)))))) ((cond b.2.2.2.2.2.2.2.1 (some (decide (a.2.1>=0))) (some false)).bind λb4=>cond b4 (aL (room 1 8) ((cond b.2.2.2.2.2.2.2.2.2.2.1 (some (decide (a.2.2>=0))) (some false)).bind λb5=>cond b5 (aL (room (0+1) 8) ((cond b.2.2.2.2.2.2.2.2.2.2.2.1 (some (decide (a.2.2>=0))) (some false)).bind λb6=>cond b6 (aL (room (1+1) 8) (some ((([]:tmI)++[a.2.2]),([a.2.1]++[a.2.2]),0))) (some ((([]:tmI)++[a.2.2]),[a.2.1],0)))) ((cond b.2.2.2.2.2.2.2.2.2.2.2.1 (some (decide (a.2.2>=0))) (some false)).bind λb7=>cond b7 (aL (room (1+1) 8) (some (([]:tmI),([a.2.1]++[a.2.2]),0))) (some (([]:tmI),[a.2.1],0))))) ((cond b.2.2.2.2.2.2.2.2.2.2.1 (some (decide (a.2.2>=0))) (some false)).bind λb8=>cond b8 (aL (room (0+1) 8) ((cond b.2.2.2.2.2.2.2.2.2.2.2.1 (some (decide (a.2.2>=0))) (some false)).bind λb9=>cond b9 (aL (room 1 8) (some ((([]:tmI)++[a.2.2]),[a.2.2],0))) (some ((([]:tmI)++[a.2.2]),[],0)))) ((cond b.2.2.2.2.2.2.2.2.2.2.2.1 (some (decide (a.2.2>=0))) (some false)).bind λc0=>cond c0 (aL (room 1 8) (some (([]:tmI),[a.2.2],0))) (some (([]:tmI),[],0))))))))
def anp:=((anm N).on 197 ⟨[.agg (bn bf)],[tmf [.D .I],tmf [.D .I],tmf [.I]],1,[(0,13,34,.bool),(0,16,46,.bool),(0,100013,34,.bool),(0,100016,46,.bool)],[(0,8),(0,100008)],[(0,2,.I),(0,37,.I),(0,49,.I)],[]⟩).p (Ox N)
def Oy(N:Nat):List Field×Int->Option Bool|(b,a)=>(cond (a>=0) (some (decide (a<b.length))) (some false)).bind λc=>c
def ans:=((anp N).on 269 ⟨[.c (.sl dc .bG),.I],[tmf [.bool]],0,[(0,1,4,.bool)],[],[],[]⟩).p (Oy N)
def Sq(N:Nat):iN->Option Int|(a,b,c,e)=>cond (a==25) c ((cond (a==26) (some true) (some (a==27))).bind λd=>cond d b (some (-1)))
def anv:=((ans N).on 270 ⟨[.agg (bn bf)],[tmf [.I]],0,[(0,7,9,.bool)],[],[],[]⟩).p (Sq N)
def Xm(N:Nat):List (List UInt8)×Int->Option Bool|(b,a)=>(cond (a>=0) (some (decide (a<b.length))) (some false)).bind λc=>c
def agY:=((anv N).on 271 ⟨[.c (.sl .str .bG),.I],[tmf [.bool]],0,[(0,1,4,.bool)],[],[],[]⟩).p (Xm N)
def Xn:=(agY N).on 193 ⟨[.agg (cT bL),.agg (bn bf)],[tmf [.I]],0,[(0,17,56,.bool)],[],[],[]⟩
def Or:Nat->Int×Int×eg (Oe tmI)->Option (Int⊕(eg iN))|0,_=>none|k+1,(d,a,e,f,g,h,i,j,b,l,m,n,o,p,q,r,c)=>cond (a<d) (aL (gB a c.length) ((c[a.toNat]?).bind λs=>(Oy N (b,s)).bind λt=>cond (!t) (some (Sum.inl 16)) (Or k (d,(av (a+1)),e,f,g,h,i,j,b,l,m,n,o,p,q,r,c)))) (some (Sum.inr (e,f,g,h,i,j,b,l,m,n,o,p,q,r)))
def auq:=(Xn N).l N 7 (tm [(2,.P 0 2 0),(3,.P 0 3 1),(22,.R 0 13 2 .I),(23,.I),(24,.I)] [] [(0,2,.box 0 (cT bL)),(0,3,.box 1 (bn bf)),(0,13,.row 2 .I)] 1 [] 3) [tmr [(4,.I)],(.exit 0,tm [(2,.P 0 2 0),(3,.P 0 3 1)] [] [(0,2,.box 0 (cT bL)),(0,3,.box 1 (bn bf))] 1 [] 2)]
theorem ao9:lpT (auq N) (Or N):=lpI
def Xo:eg iN->Option Int|(g,h,i,j,l,m,n,o,p,q,c,d,e,f)=>(Ox N (c,d,e,f)).bind λa=>cond (a.2.2!=0) a.2.2 (aL (room (a.1.length+a.2.1.length) 8) ((Or N N (((a.1++a.2.1).length:Int),0,g,h,i,j,l,m,n,o,p,q,c,d,e,f,(a.1++a.2.1))).bind λr=>match r with|.inl s=>s|.inr b=>(Sq N (b.2.2.2.2.2.2.2.2.2.2.1,b.2.2.2.2.2.2.2.2.2.2.2.1,b.2.2.2.2.2.2.2.2.2.2.2.2.1,b.2.2.2.2.2.2.2.2.2.2.2.2.2)).bind λt=>(cond (t>=b.2.2.1.length) (some true) (cond (b.2.2.2.2.2.2.2.2.2.2.1==2) ((Xm N (b.2.1,b.2.2.2.2.2.2.2.2.2.2.2.2.1)).bind λu=>some (!u)) (some false))).bind λv=>cond v (some 16) (some 0)))
def anA:=(auq N).p (Xo N) (by delta Xo;rw[ao9 N N];kernel_rfl)
def LQ:eg Int->Option Int|(e,f,g,h,i,j,a,l,m,n,b)=>(Oy N (a,b)).bind λc=>cond (!c) (some (-1)) ((idx a b).bind λd=>d.2)
def ag0:=((anA N).on 272 (sg [.agg (cT bL),.I] [tmf [.I]])).p (LQ N)
def Xp:=(ag0 N).on 369 (sg [.c (.sl .B .bG),.B] [tmf [.I]])
def Pi(N:Nat):Nat->tmI×Int×Int×Int->Option (Int⊕Unit)|0,_=>none|k+1,(b,c,d,a)=>cond (a<d) ((idx b a).bind λe=>cond (c==e) (some (Sum.inl a)) (Pi N k (b,c,d,(av (a+1))))) (some (Sum.inr ()))
def aur:=(Xp N).l N 3 (tmn [(0,.c (.sl .B .bG)),(1,.B),(7,.I),(8,.I)]) [tmr [(4,.I)],tmx]
theorem aq0:lpT (aur N) (Pi N):=lpI
def abq:tmI×Int->Option Int|(a,b)=>(Pi N N (a,b,(a.length:Int),0)).bind λc=>match c with|.inl d=>d|.inr e=>some (-1)
def anE:=(aur N).p (abq N) (by delta abq;rw[aq0 N N];kernel_rfl)
def Xq:tmI×Int->Option Bool|(a,b)=>(abq N (a,b)).bind λc=>some (decide (c>=0))
def anH:=((anE N).on 343 (sg [.c (.sl .B .bG),.B] [tmf [.bool]])).p (Xq N)
def mz:eg (Int×tmI)->Option Bool|(b,g,h,i,j,l,m,n,o,p,a,c)=>(cond (a>=0) ((idx b a).bind λd=>(Xq N (c,d.1)).bind λe=>some e) (some false)).bind λf=>f
def anK:=((anH N).on 275 ⟨[.agg (cT bL),.I,.c (.sl .B .bG)],[tmf [.bool]],0,[(0,1,6,.bool)],[],[],[]⟩).p (mz N)
def Sr:eg (Int×Int×Int)->Option Bool|(a,d,e,f,g,h,i,j,l,m,b,c,n)=>(mz N (a,d,e,f,g,h,i,j,l,m,b,[5])).bind λo=>cond o ((idx a b).bind λp=>(Oy N (p.2.2.2,c)).bind λq=>cond q ((idx a b).bind λr=>(idx r.2.2.2 c).bind λs=>some (s.2==n)) false) false
def anN:=((anK N).on 277 (sg [.agg (cT bL),.I,.I,.I] [tmf [.bool]])).p (Sr N)
def LR:eg (Int×Int×tmI)->Option Bool|(a,c,d,e,f,g,h,i,j,l,b,m,n)=>((mz N (a,c,d,e,f,g,h,i,j,l,b,n)).bind λo=>cond o ((idx a b).bind λp=>some (p.2.1==m)) (some false)).bind λq=>q
def anQ:=((anN N).on 278 ⟨[.agg (cT bL),.I,.I,.c (.sl .B .bG)],[tmf [.bool]],0,[(0,1,8,.bool)],[],[],[]⟩).p (LR N)
def Xr:eg gY->Option Bool|(b,c,d,e,f,g,h,i,j,l,q,a,m,n,r,s,t)=>cond (m<0) (cond (a==0) true (cond (a==1) ((idx n 0).bind λo=>(mz N (b,c,d,e,f,g,h,i,j,l,o.2,[1,2,4])).bind λp=>p) false)) false
def ag2:=((anQ N).on 279 (sg [.agg (cT bL),.agg (cT ec)] [tmf [.bool]])).p (Xr N)
def Xs:=(ag2 N).on 194 ⟨[.agg (cT bL),.agg (bn bf)],[tmf [.bool]],0,[(0,7,26,.bool),(0,15,39,.bool),(0,27,50,.bool),(0,25,50,.bool),(0,23,50,.bool),(0,69,4,.bool),(0,71,202,.bool),(0,79,220,.bool),(0,85,4,.bool)],[],[(0,31,.I),(0,59,.I),(0,70,.I),(0,144,.I),(0,157,.I),(0,170,.I),(0,177,.I),(0,229,.I)],[]⟩
def mQ:Nat->tmI×Int×Int×dP->Option (Int⊕Unit)|0,_=>none|k+1,(b,c,a,d,e,f,g,h,i,j,l,m,n)=>cond (a<c) ((idx b a).bind λo=>(mz N (d,e,f,g,h,i,j,l,m,n,o,[2])).bind λp=>cond (!p) (some (Sum.inl a)) (mQ k (b,c,(av (a+1)),d,e,f,g,h,i,j,l,m,n))) (some (Sum.inr ()))
def Xt:=(Xs N).L N 1032001006001007000 3 101 3 (tm [(0,.c (.sl .I .full)),(1,.fG 274 [.P 0 2 0]),(7,.I),(8,.I)] [[],[],[]] [(0,2,.box 0 (cT bL))] 4 [] 1) [(.ret,tm [(4,.I)] [[],[],[]] [] 4 [] 0),(.exit 0,tm [] [[],[],[]] [] 4 [] 0)]
theorem aq1:lpT (Xt N) (mQ N):=lpI
def mR:Nat->tmI×Int×Int×dP->Option (Int⊕Unit)|0,_=>none|k+1,(b,c,a,d,e,f,g,h,i,j,l,m,n)=>cond (a<c) ((idx b a).bind λo=>(mz N (d,e,f,g,h,i,j,l,m,n,o,[2])).bind λp=>cond (!p) (some (Sum.inl a)) (mR k (b,c,(av (a+1)),d,e,f,g,h,i,j,l,m,n))) (some (Sum.inr ()))
def Xu:=(Xt N).L N 1060001006001007000 3 101 3 (tm [(0,.c (.sl .I .full)),(1,.fG 274 [.P 0 2 0]),(7,.I),(8,.I)] [[],[],[]] [(0,2,.box 0 (cT bL))] 4 [] 1) [(.ret,tm [(4,.I)] [[],[],[]] [] 4 [] 0),(.exit 0,tm [] [[],[],[]] [] 4 [] 0)]
theorem aq2:lpT (Xu N) (mR N):=lpI
def mT:Nat->tmI×Int×Int×dP->Option (Int⊕Unit)|0,_=>none|k+1,(b,c,a,d,e,f,g,h,i,j,l,m,n)=>cond (a<c) ((idx b a).bind λo=>(mz N (d,e,f,g,h,i,j,l,m,n,o,[2])).bind λp=>cond (!p) (some (Sum.inl a)) (mT k (b,c,(av (a+1)),d,e,f,g,h,i,j,l,m,n))) (some (Sum.inr ()))
def Xv:=(Xu N).L N 1071001006001007000 3 101 3 (tm [(0,.c (.sl .I .full)),(1,.fG 274 [.P 0 2 0]),(7,.I),(8,.I)] [[],[],[]] [(0,2,.box 0 (cT bL))] 4 [] 1) [(.ret,tm [(4,.I)] [[],[],[]] [] 4 [] 0),(.exit 0,tm [] [[],[],[]] [] 4 [] 0)]
theorem aq3:lpT (Xv N) (mT N):=lpI
def mU:Nat->tmI×Int×Int×dP->Option (Int⊕Unit)|0,_=>none|k+1,(b,c,a,d,e,f,g,h,i,j,l,m,n)=>cond (a<c) ((idx b a).bind λo=>(mz N (d,e,f,g,h,i,j,l,m,n,o,[2])).bind λp=>cond (!p) (some (Sum.inl a)) (mU k (b,c,(av (a+1)),d,e,f,g,h,i,j,l,m,n))) (some (Sum.inr ()))
def Xw:=(Xv N).L N 1145001006001007000 3 101 3 (tm [(0,.c (.sl .I .full)),(1,.fG 274 [.P 0 2 0]),(7,.I),(8,.I)] [[],[],[]] [(0,2,.box 0 (cT bL))] 4 [] 1) [(.ret,tm [(4,.I)] [[],[],[]] [] 4 [] 0),(.exit 0,tm [] [[],[],[]] [] 4 [] 0)]
theorem aq4:lpT (Xw N) (mU N):=lpI
def mV:Nat->tmI×Int×Int×dP->Option (Int⊕Unit)|0,_=>none|k+1,(b,c,a,d,e,f,g,h,i,j,l,m,n)=>cond (a<c) ((idx b a).bind λo=>(mz N (d,e,f,g,h,i,j,l,m,n,o,[2])).bind λp=>cond (!p) (some (Sum.inl a)) (mV k (b,c,(av (a+1)),d,e,f,g,h,i,j,l,m,n))) (some (Sum.inr ()))
def Xx:=(Xw N).L N 1158001006001007000 3 101 3 (tm [(0,.c (.sl .I .full)),(1,.fG 274 [.P 0 2 0]),(7,.I),(8,.I)] [[],[],[]] [(0,2,.box 0 (cT bL))] 4 [] 1) [(.ret,tm [(4,.I)] [[],[],[]] [] 4 [] 0),(.exit 0,tm [] [[],[],[]] [] 4 [] 0)]
theorem aq6:lpT (Xx N) (mV N):=lpI
def mW:Nat->tmI×Int×Int×dP->Option (Int⊕Unit)|0,_=>none|k+1,(b,c,a,d,e,f,g,h,i,j,l,m,n)=>cond (a<c) ((idx b a).bind λo=>(mz N (d,e,f,g,h,i,j,l,m,n,o,[2])).bind λp=>cond (!p) (some (Sum.inl a)) (mW k (b,c,(av (a+1)),d,e,f,g,h,i,j,l,m,n))) (some (Sum.inr ()))
def Xy:=(Xx N).L N 1171001006001007000 3 101 3 (tm [(0,.c (.sl .I .full)),(1,.fG 274 [.P 0 2 0]),(7,.I),(8,.I)] [[],[],[]] [(0,2,.box 0 (cT bL))] 4 [] 1) [(.ret,tm [(4,.I)] [[],[],[]] [] 4 [] 0),(.exit 0,tm [] [[],[],[]] [] 4 [] 0)]
theorem aq7:lpT (Xy N) (mW N):=lpI
def mX:Nat->tmI×Int×Int×dP->Option ((Int×dP)⊕dP)|0,_=>none|k+1,(m,n,a,b,c,d,e,f,g,h,i,j,l)=>cond (a<n) ((idx m a).bind λo=>(mz N (b,c,d,e,f,g,h,i,j,l,o,[2])).bind λp=>cond (!p) (some (Sum.inl (a,b,c,d,e,f,g,h,i,j,l))) (mX k (m,n,(av (a+1)),b,c,d,e,f,g,h,i,j,l))) (some (Sum.inr (b,c,d,e,f,g,h,i,j,l)))
def Xz:=(Xy N).L N 1178001006001007000 3 101 3 (tm [(0,.c (.sl .I .full)),(1,.fG 274 [.P 0 2 0]),(7,.I),(8,.I)] [[],[],[(2,.P 0 2 0)]] [(0,2,.box 0 (cT bL))] 4 [] 1) [(.ret,tm [(4,.I)] [[],[],[(2,.P 0 2 0)]] [(0,2,.box 0 (cT bL))] 4 [] 1),(.exit 0,tm [] [[],[],[(2,.P 0 2 0)]] [(0,2,.box 0 (cT bL))] 4 [] 1)]
theorem aq8:lpT (Xz N) (mX N):=lpI
def mY:Nat->tmI×Int×Int×dP->Option (Int⊕Unit)|0,_=>none|k+1,(b,c,a,d,e,f,g,h,i,j,l,m,n)=>cond (a<c) ((idx b a).bind λo=>(mz N (d,e,f,g,h,i,j,l,m,n,o,[2])).bind λp=>cond (!p) (some (Sum.inl a)) (mY k (b,c,(av (a+1)),d,e,f,g,h,i,j,l,m,n))) (some (Sum.inr ()))
def aus:=(Xz N).L N 1230001006001007000 3 101 3 (tm [(0,.c (.sl .I .full)),(1,.fG 274 [.P 0 2 0]),(7,.I),(8,.I)] [[],[],[]] [(0,2,.box 0 (cT bL))] 4 [] 1) [(.ret,tm [(4,.I)] [[],[],[]] [] 4 [] 0),(.exit 0,tm [] [[],[],[]] [] 4 [] 0)]
theorem aq9:lpT (aus N) (mY N):=lpI
def XA:eg iN->Option Bool|(c,d,a,e,f,b,g,h,i,j,l,s,t,u)=>(LQ N (c,d,a,e,f,b,g,h,i,j,s)).bind λm=>(LQ N (c,d,a,e,f,b,g,h,i,j,t)).bind λn=>(LQ N (c,d,a,e,f,b,g,h,i,j,u)).bind λr=>(cond (l==1) (some true) (some (l==32))).bind λv=>cond v ((mQ N N ([m],1,0,c,d,a,e,f,b,g,h,i,j)).bind λw=>match w with|.inl x=>some (!(decide (x>=0)))|.inr b6=>some (!(decide ((-1:Int)>=0)))) (cond (l==2) ((mz N (c,d,a,e,f,b,g,h,i,j,m,[3])).bind λy=>y) ((cond (l==3) (some true) (some (l==23))).bind λz=>cond z ((mz N (c,d,a,e,f,b,g,h,i,j,m,[1])).bind λA=>A) (cond (l==5) (some (m==n)) ((cond (l==6) (some true) ((cond (l==7) (some true) ((cond (l==8) (some true) (some (l==9))).bind λB=>some B)).bind λC=>some C)).bind λD=>cond D ((mR N N ([m,n,r],3,0,c,d,a,e,f,b,g,h,i,j)).bind λE=>match E with|.inl G=>some (!(decide (G>=0)))|.inr b7=>some (!(decide ((-1:Int)>=0)))) (cond (l==10) ((mz N (c,d,a,e,f,b,g,h,i,j,m,[1])).bind λH=>cond H ((mT N N ([n,r],2,0,c,d,a,e,f,b,g,h,i,j)).bind λI=>match I with|.inl J=>some (!(decide (J>=0)))|.inr b8=>some (!(decide ((-1:Int)>=0)))) false) (cond (l==11) ((mz N (c,d,a,e,f,b,g,h,i,j,m,[1])).bind λK=>cond K (cond (n==r) ((mz N (c,d,a,e,f,b,g,h,i,j,n,[2,1,4])).bind λL=>L) false) false) (cond (l==12) ((mz N (c,d,a,e,f,b,g,h,i,j,m,[1])).bind λM=>cond M ((mz N (c,d,a,e,f,b,g,h,i,j,n,[1])).bind λO=>O) false) (cond (l==13) ((Sr N (c,d,a,e,f,b,g,h,i,j,n,u,m)).bind λP=>P) (cond (l==14) ((Sr N (c,d,a,e,f,b,g,h,i,j,m,t,r)).bind λQ=>Q) (cond (l==15) ((mz N (c,d,a,e,f,b,g,h,i,j,m,[4])).bind λR=>R) (cond (l==16) ((LR N (c,d,a,e,f,b,g,h,i,j,n,m,[4])).bind λS=>S) (cond (l==17) ((LR N (c,d,a,e,f,b,g,h,i,j,m,n,[4])).bind λT=>T) (cond (l==18) ((mz N (c,d,a,e,f,b,g,h,i,j,m,[7])).bind λU=>cond U ((mU N N ([n],1,0,c,d,a,e,f,b,g,h,i,j)).bind λV=>match V with|.inl W=>some (!(decide (W>=0)))|.inr b9=>some (!(decide ((-1:Int)>=0)))) false) (cond (l==19) ((LR N (c,d,a,e,f,b,g,h,i,j,n,m,[7,6])).bind λX=>cond X ((mV N N ([r],1,0,c,d,a,e,f,b,g,h,i,j)).bind λY=>match Y with|.inl Z=>some (!(decide (Z>=0)))|.inr c0=>some (!(decide ((-1:Int)>=0)))) false) (cond (l==20) ((LR N (c,d,a,e,f,b,g,h,i,j,m,r,[7,6])).bind λa0=>cond a0 ((mW N N ([n],1,0,c,d,a,e,f,b,g,h,i,j)).bind λa1=>match a1 with|.inl a2=>some (!(decide (a2>=0)))|.inr c1=>some (!(decide ((-1:Int)>=0)))) false) (cond (l==21) ((mX N N ([m],1,0,c,d,a,e,f,b,g,h,i,j)).bind λa3=>match a3 with|.inl o=>cond (!(decide (o.1>=0))) ((mz N (o.2.1,o.2.2.1,o.2.2.2.1,o.2.2.2.2.1,o.2.2.2.2.2.1,o.2.2.2.2.2.2.1,o.2.2.2.2.2.2.2.1,o.2.2.2.2.2.2.2.2.1,o.2.2.2.2.2.2.2.2.2.1,o.2.2.2.2.2.2.2.2.2.2,n,[3,7,6])).bind λa4=>a4) false|.inr p=>(mz N (p.1,p.2.1,p.2.2.1,p.2.2.2.1,p.2.2.2.2.1,p.2.2.2.2.2.1,p.2.2.2.2.2.2.1,p.2.2.2.2.2.2.2.1,p.2.2.2.2.2.2.2.2.1,p.2.2.2.2.2.2.2.2.2,n,[3,7,6])).bind λa5=>a5) (cond (l==25) ((cond (s<0) (some true) ((idx a t).bind λa6=>some (a6.2.2.1==m))).bind λa7=>a7) ((cond (l==26) (some true) (some (l==27))).bind λa8=>cond a8 ((idx a s).bind λq=>(Xr N (c,d,a,e,f,b,g,h,i,j,q.1,q.2.1,q.2.2.1,q.2.2.2.1,q.2.2.2.2.1,q.2.2.2.2.2.1,q.2.2.2.2.2.2)).bind λa9=>a9) (cond (l==28) ((mz N (c,d,a,e,f,b,g,h,i,j,m,[2,1,3])).bind λb0=>b0) ((cond (l==29) (some true) (some (l==33))).bind λb1=>cond b1 ((mz N (c,d,a,e,f,b,g,h,i,j,m,[1])).bind λb2=>cond b2 ((mY N N ([n],1,0,c,d,a,e,f,b,g,h,i,j)).bind λb3=>match b3 with|.inl b4=>some (!(decide (b4>=0)))|.inr c2=>some (!(decide ((-1:Int)>=0)))) false) (cond (l==34) ((cond (s<0) (some true) (some (b==m))).bind λb5=>b5) true)))))))))))))))))))))
def anU:=(aus N).p (XA N) (by delta XA;rw[aq1 N N,aq2 N N,aq3 N N,aq4 N N,aq6 N N,aq7 N N,aq8 N N,aq9 N N];kernel_rfl)
def anV(N:Nat)(x:tmI):Option tmI:=some x
def anW:Evq:=⟨(anU N).E.pG 345 (Ce .I),λA=>((anU N).ok A).pG (Oc (by kernel_rfl))⟩
def LS(N:Nat):Int->Option (Int×Int)|a=>(cond (a<0) (some true) (some (decide (a>1073741824)))).bind λb=>cond b (some (0,2)) (some ((qg .i64 (av (a+7)) 7),0))
def ag4:=((anW N).on 155 ⟨[.I],[tmf [.I],tmf [.I]],0,[(0,1,9,.bool)],[],[],[]⟩).p (LS N)
def XB:=(ag4 N).on 283 (sg [.agg (cT bL),.c (.sl .I .bG)] [tmf [.I],tmf [.I]])
def Pl:Nat->Int×tmI×Int×Int×dP->Option ((Int×Int)⊕Int)|0,_=>none|k+1,(d,e,f,a,g,h,i,j,l,m,n,o,p,q)=>cond (a<f) ((idx e a).bind λr=>(Sn N (g,r)).bind λb=>cond (b.2.2!=0) (some (Sum.inl (0,b.2.2))) ((LS N b.1).bind λc=>cond (c.2!=0) (some (Sum.inl (0,c.2))) (Pl k ((av (d+c.1)),e,f,(av (a+1)),g,h,i,j,l,m,n,o,p,q)))) (some (Sum.inr d))
def auu:=(XB N).l N 4 (tm [(2,.P 0 2 0),(6,.I),(12,.c (.sl .I .bG)),(13,.I),(14,.I)] [] [(0,2,.box 0 (cT bL))] 1 [] 1) [tmr [(4,.I),(5,.I)],(.exit 0,tmn [(6,.I)])]
theorem ar2:lpT (auu N) (Pl N):=lpI
def Ss:eg tmI->Option (Int×Int)|(c,d,e,f,g,h,i,j,l,m,a)=>(Pl N N (0,a,(a.length:Int),0,c,d,e,f,g,h,i,j,l,m)).bind λn=>match n with|.inl b=>(b.1,b.2)|.inr o=>some (o,0)
def ag6:=(auu N).p (Ss N) (by delta Ss;rw[ar2 N N];kernel_rfl)
def XC:=(ag6 N).on 280 ⟨[.agg (bn bL),.agg (bn bf),.D .I],[tmf [.D .I],tmf [.bool]],0,[],[],[(0,24,.I)],[(0,6,[tmr [(6,.N),(7,.Q)],(.normal,tm [(2,.D .I),(3,.P 0 3 0)] [] [(0,3,.box 0 (bn bL))] 1 [] 1)]),(0,2,[(.normal,tm [(2,.D .I),(3,.P 0 3 1),(4,.P 0 4 2)] [] [(0,3,.box 1 (bn bL)),(0,4,.box 2 (bn bf))] 1 [] 3)])]⟩
def Ps(N:Nat):Nat->tmI×Int×tmI×Int×Int×eg gY->Option (Bool⊕(tmI×Int×dP))|0,_=>none|k+1,(b,c,d,e,a,f,g,h,i,j,l,m,n,o,p,r,s,t,q,u,v,w)=>cond (a<e) ((idx d a).bind λx=>(idx q a).bind λy=>cond (y.2!=x) (some (Sum.inl false)) (Ps N k (b,c,d,e,(av (a+1)),f,g,h,i,j,l,m,n,o,p,r,s,t,q,u,v,w))) (some (Sum.inr (b,c,f,g,h,i,j,l,m,n,o,p)))
def auv:=(XC N).l N 14 (tm [(2,.D .I),(3,.P 0 3 0),(9,.P 0 9 1),(10,.I),(45,.D .I),(46,.I),(47,.I)] [] [(0,3,.box 0 (bn bL)),(0,9,.box 1 (bn ec))] 1 [] 2) [tmr [(6,.N),(7,.Q)],(.exit 0,tm [(2,.D .I),(3,.P 0 3 0),(10,.I)] [] [(0,3,.box 0 (bn bL))] 1 [] 1)]
theorem ar3:lpT (auv N) (Ps N):=lpI
def Ja:eg (Oe tmI)->Option (tmI×Bool)|(e,f,g,h,i,j,l,m,n,o,p,q,r,s,t)=>(cond (p==24) ((anV N t).bind λu=>(LQ N (e,f,g,h,i,j,l,m,n,o,q)).bind λx=>aL (room (u.length+1) 8) (some ((u++[x]),e,f,g,h,i,j,l,m,n,o,p,q,r,s))) (some (t,e,f,g,h,i,j,l,m,n,o,p,q,r,s))).bind λa=>(Sq N (a.2.2.2.2.2.2.2.2.2.2.2.1,a.2.2.2.2.2.2.2.2.2.2.2.2.1,a.2.2.2.2.2.2.2.2.2.2.2.2.2.1,a.2.2.2.2.2.2.2.2.2.2.2.2.2.2)).bind λv=>(cond (v>=0) ((idx a.2.2.2.1 v).bind λc=>cond ((av ((a.1.length:Int)-c.2.1))<0) (some (Sum.inl false)) (aL (decide (0<=(av ((a.1.length:Int)-c.2.1)))) (aL (decide ((Int.toNat (av ((a.1.length:Int)-c.2.1)))<=a.1.length)) ((Ps N N (a.1,(av ((a.1.length:Int)-c.2.1)),(a.1.drop (Int.toNat (av ((a.1.length:Int)-c.2.1)))),((a.1.drop (Int.toNat (av ((a.1.length:Int)-c.2.1)))).length:Int),0,a.2.1,a.2.2.1,a.2.2.2.1,a.2.2.2.2.1,a.2.2.2.2.2.1,a.2.2.2.2.2.2.1,a.2.2.2.2.2.2.2.1,a.2.2.2.2.2.2.2.2.1,a.2.2.2.2.2.2.2.2.2.1,a.2.2.2.2.2.2.2.2.2.2.1,c.1,c.2.1,c.2.2.1,c.2.2.2.1,c.2.2.2.2.1,c.2.2.2.2.2.1,c.2.2.2.2.2.2)).bind λy=>match y with|.inl z=>some (Sum.inl z)|.inr b=>aL (decide (0<=b.2.1)) (aL (decide (b.2.1.toNat<=b.1.length)) (some (Sum.inr ((b.1.take b.2.1.toNat),b.2.2.1,b.2.2.2.1,b.2.2.2.2.1,b.2.2.2.2.2.1,b.2.2.2.2.2.2.1,b.2.2.2.2.2.2.2.1,b.2.2.2.2.2.2.2.2.1,b.2.2.2.2.2.2.2.2.2.1,b.2.2.2.2.2.2.2.2.2.2.1,b.2.2.2.2.2.2.2.2.2.2.2)))))))) (some (Sum.inr (a.1,a.2.1,a.2.2.1,a.2.2.2.1,a.2.2.2.2.1,a.2.2.2.2.2.1,a.2.2.2.2.2.2.1,a.2.2.2.2.2.2.2.1,a.2.2.2.2.2.2.2.2.1,a.2.2.2.2.2.2.2.2.2.1,a.2.2.2.2.2.2.2.2.2.2.1)))).bind λA=>match A with|.inl B=>some ([],B)|.inr d=>(Ss N (d.2.1,d.2.2.1,d.2.2.2.1,d.2.2.2.2.1,d.2.2.2.2.2.1,d.2.2.2.2.2.2.1,d.2.2.2.2.2.2.2.1,d.2.2.2.2.2.2.2.2.1,d.2.2.2.2.2.2.2.2.2.1,d.2.2.2.2.2.2.2.2.2.2,d.1)).bind λw=>cond (w.2==0) (some (d.1,(decide (w.1<=4096)))) (d.1,false)
def an1:=(auv N).p (Ja N) (by delta Ja;rw[ar3 N N];kernel_rfl)
def XD:List Instr×Int->Option (tmI×Int)|(a,b)=>(Ou N a).bind λc=>cond (c !=0) (some ([],c)) ((cond (b<0) (some true) (some (decide (b>=a.length)))).bind λd=>cond d (some ([],2)) ((Ov N (a,b)).bind λe=>some (e,0)))
def ag8:=((an1 N).on 281 ⟨[.c (.sl bf .bG),.I],[tmf [.D .I],tmf [.I]],0,[(0,5,19,.bool)],[],[],[]⟩).p (XD N)
def XE:=(ag8 N).on 282 (sg [.c (.sl .I .bG),.c (.sl .I .bG)] [tmf [.bool]])
def PH(N:Nat):Nat->tmI×tmI×Int×Int->Option (Bool⊕Unit)|0,_=>none|k+1,(b,c,d,a)=>cond (a<d) ((idx b a).bind λe=>(idx c a).bind λf=>cond (e !=f) (some (Sum.inl false)) (PH N k (b,c,d,(av (a+1))))) (some (Sum.inr ()))
def auw:=(XE N).l N 6 (tmn [(0,.c (.sl .I .bG)),(1,.c (.sl .I .bG)),(12,.I),(13,.I)]) [tmr [(4,.Q)],tmx]
theorem ar6:lpT (auw N) (PH N):=lpI
def XF:tmI×tmI->Option Bool|(a,b)=>cond ((a.length:Int)!=(b.length:Int)) false ((PH N N (a,b,(a.length:Int),0)).bind λc=>match c with|.inl d=>d|.inr e=>true)
def aha:=(auw N).p (XF N) (by delta XF;rw[ar6 N N];kernel_rfl)
def XG:=(aha N).on 195 ⟨[.agg (bn bL)],[tmf [.D .U],tmf [.bool]],0,[(0,14,70,.bool)],[],[(0,25,(.sl .I)),(0,28,.bool),(0,31,.I),(0,90,.I),(0,105,.U)],[]⟩
def iT:Nat->List Instr×tmI×tmI×Int×Int×eg (List tmI×List Bool×tmI)->Option (Bool⊕(List Instr×eg (List tmI×List Bool×tmI)))|0,_=>none|k+1,(g,d,h,i,e,j,l,m,n,o,p,q,r,s,t,b,c,f)=>cond (e<i) ((idx h e).bind λa=>aL (gB a c.length) ((c[a.toNat]?).bind λu=>cond (!u) (aL (room (f.length+1) 8) (aL (gB a b.length) ((b[a.toNat]?).bind λx=>aL (gB a c.length) ((c[a.toNat]?).bind λy=>iT k (g,d,h,i,(av (e+1)),j,l,m,n,o,p,q,r,s,t,(b.set a.toNat d),(c.set a.toNat true),(f++[a])))))) (aL (gB a b.length) ((b[a.toNat]?).bind λv=>(XF N (v,d)).bind λw=>cond (!w) (some (Sum.inl false)) (iT k (g,d,h,i,(av (e+1)),j,l,m,n,o,p,q,r,s,t,b,c,f)))))) (some (Sum.inr (g,j,l,m,n,o,p,q,r,s,t,b,c,f)))
def XH:=(XG N).l N 19 (tm [(1,.P 0 1 0),(4,.D bf),(5,.R 0 25 1 (.sl .I)),(6,.R 0 28 2 .bool),(7,.R 0 31 3 .I),(9,.D .I),(71,.D .I),(72,.I),(73,.I)] [] [(0,1,.box 0 (bn bL)),(0,25,.row 1 (.sl .I)),(0,28,.row 2 .bool),(0,31,.row 3 .I)] 1 [] 4) [tmr [(2,.N),(3,.Q)],(.exit 2,tm [(1,.P 0 1 0),(4,.D bf),(5,.R 0 25 1 (.sl .I)),(6,.R 0 28 2 .bool),(7,.R 0 31 3 .I)] [] [(0,1,.box 0 (bn bL)),(0,25,.row 1 (.sl .I)),(0,28,.row 2 .bool),(0,31,.row 3 .I)] 1 [] 4)]
theorem ar7:lpT (XH N) (iT N):=lpI
def iU:Nat->List Instr×eg (List tmI×List Bool×tmI)->Option (Bool⊕(List Instr×eg (List tmI)))|0,_=>none|k+1,(c,g,h,i,j,l,m,n,o,p,q,d,t,b)=>cond ((b.length:Int)>0) (aL (gB (av ((b.length:Int)-1)) b.length) ((b[(Int.toNat (av ((b.length:Int)-1)))]?).bind λe=>aL (decide (0<=(av ((b.length:Int)-1)))) (aL (decide ((Int.toNat (av ((b.length:Int)-1)))<=b.length)) ((idx c e).bind λf=>aL (gB e d.length) ((d[e.toNat]?).bind λu=>(Ja N (g,h,i,j,l,m,n,o,p,q,f.1,f.2.1,f.2.2.1,f.2.2.2,u)).bind λs=>(XD N (c,e)).bind λr=>(cond (!s.2) (some true) (some (r.2!=0))).bind λv=>cond v (some (Sum.inl false)) ((iT N N (c,s.1,r.1,(r.1.length:Int),0,g,h,i,j,l,m,n,o,p,q,d,t,(b.take (Int.toNat (av ((b.length:Int)-1)))))).bind λw=>match w with|.inl x=>some (Sum.inl x)|.inr a=>iU k (a.1,a.2.1,a.2.2.1,a.2.2.2.1,a.2.2.2.2.1,a.2.2.2.2.2.1,a.2.2.2.2.2.2.1,a.2.2.2.2.2.2.2.1,a.2.2.2.2.2.2.2.2.1,a.2.2.2.2.2.2.2.2.2.1,a.2.2.2.2.2.2.2.2.2.2.1,a.2.2.2.2.2.2.2.2.2.2.2.1,a.2.2.2.2.2.2.2.2.2.2.2.2.1,a.2.2.2.2.2.2.2.2.2.2.2.2.2))))))) (some (Sum.inr (c,g,h,i,j,l,m,n,o,p,q,d)))
def XI:=(XH N).l N 6 (tm [(1,.P 0 1 0),(4,.D bf),(5,.R 0 25 1 (.sl .I)),(6,.R 0 28 2 .bool),(7,.R 0 31 3 .I)] [] [(0,1,.box 0 (bn bL)),(0,25,.row 1 (.sl .I)),(0,28,.row 2 .bool),(0,31,.row 3 .I)] 1 [] 4) [tmr [(2,.N),(3,.Q)],(.exit 0,tm [(1,.P 0 1 0),(4,.D bf),(5,.R 0 25 1 (.sl .I))] [] [(0,1,.box 0 (bn bL)),(0,25,.row 1 (.sl .I))] 1 [] 2)]
theorem ar8:lpT (XI N) (iU N):=lpJ λk=>funext λ⟨a,b,c,d,e,f,g,h,i,j,l,m,n,o⟩=>by rw[iU,ar7 N N];kernel_rfl
def wX:Nat->List Instr×Int×Int×eg (List tmI×tmI)->Option (Bool⊕(List Instr×List tmI×tmI))|0,_=>none|k+1,(d,e,a,f,g,h,i,j,l,m,n,o,p,b,c)=>cond (a<e) (aL (gB a b.length) ((b[a.toNat]?).bind λr=>(Ss N (f,g,h,i,j,l,m,n,o,p,r)).bind λq=>cond (q.2!=0) (some (Sum.inl false)) (aL (gB a c.length) ((c[a.toNat]?).bind λs=>wX k (d,e,(av (a+1)),f,g,h,i,j,l,m,n,o,p,b,(c.set a.toNat (aR q.1))))))) (some (Sum.inr (d,b,c)))
def auy:=(XI N).l N 35 (tm [(1,.P 0 1 0),(4,.D bf),(5,.R 0 25 1 (.sl .I)),(15,.R 0 105 2 .U),(106,.R 0 25 1 (.sl .I)),(107,.I),(108,.I)] [] [(0,1,.box 0 (bn bL)),(0,25,.row 1 (.sl .I)),(0,105,.row 2 .U)] 1 [] 3) [tmr [(2,.N),(3,.Q)],(.exit 5,tm [(4,.D bf),(5,.R 0 25 0 (.sl .I)),(15,.R 0 105 1 .U)] [] [(0,25,.row 0 (.sl .I)),(0,105,.row 1 .U)] 1 [] 2)]
theorem as0:lpT (auy N) (wX N):=lpI
def Su:dP->Option (tmI×Bool)|(d,e,f,g,h,i,j,b,l,m)=>aL (decide (0<=(b.length:Int))) (aL (decide (0<=(b.length:Int))) (aL (decide ((Int.toNat (b.length:Int))<=(Int.toNat (b.length:Int)))&&room (Int.toNat (b.length:Int)) 24) (aL (decide (0<=(b.length:Int))) (aL (decide (0<=(b.length:Int))) (aL (decide ((Int.toNat (b.length:Int))<=(Int.toNat (b.length:Int)))&&room (Int.toNat (b.length:Int)) 1) (aL (gB 0 (List.replicate (Int.toNat (b.length:Int)) false).length) (((List.replicate (Int.toNat (b.length:Int)) false)[(Int.toNat 0)]?).bind λs=>(iU N N (b,d,e,f,g,h,i,j,b,l,m,(List.replicate (Int.toNat (b.length:Int)) []),((List.replicate (Int.toNat (b.length:Int)) false).set (Int.toNat 0) true),[0])).bind λn=>match n with|.inl o=>some ([],o)|.inr a=>aL (decide (0<=(a.1.length:Int))) (aL (decide (0<=(a.1.length:Int))) (aL (decide ((Int.toNat (a.1.length:Int))<=(Int.toNat (a.1.length:Int)))&&room (Int.toNat (a.1.length:Int)) 8) ((wX N N (a.1,(a.2.2.2.2.2.2.2.2.2.2.2.length:Int),0,a.2.1,a.2.2.1,a.2.2.2.1,a.2.2.2.2.1,a.2.2.2.2.2.1,a.2.2.2.2.2.2.1,a.2.2.2.2.2.2.2.1,a.2.2.2.2.2.2.2.2.1,a.2.2.2.2.2.2.2.2.2.1,a.2.2.2.2.2.2.2.2.2.2.1,a.2.2.2.2.2.2.2.2.2.2.2,(List.replicate (Int.toNat (a.1.length:Int)) (0:Int)))).bind λp=>match p with|.inl q=>some ([],q)|.inr c=>aL (gB (av ((c.1.length:Int)-1)) c.2.1.length) ((c.2.1[(Int.toNat (av ((c.1.length:Int)-1)))]?).bind λr=>some (c.2.2,((r.length:Int)==0)))))))))))))
def ahc:=(auy N).p (Su N) (by delta Su;rw[ar8 N N,as0 N N];kernel_rfl)
def XL:=(ahc N).on 284 (sg [.c (.sl .I .bG)] [tmf [.U]])
def PP(N:Nat):Nat->Int×tmI×Int×Int->Option Int|0,_=>none|k+1,(b,c,d,a)=>cond (a<d) ((idx c a).bind λe=>aL (!(e<0)) (PP N k ((DS .u64 b (aR (1*(2^min e.toNat 64)))),c,d,(av (a+1))))) b
def auz:=(XL N).l N 4 (tmn [(3,.U),(6,.c (.sl .I .bG)),(7,.I),(8,.I)]) [(.exit 0,tmn [(3,.U)])]
theorem as1:lpT (auz N) (PP N):=lpI
def Sv:tmI->Option Int|a=>(PP N N (0,a,(a.length:Int),0)).bind λb=>b
def ahe:=(auz N).p (Sv N) (by delta Sv;rw[as1 N N];kernel_rfl)
def XM:=(ahe N).on 196 ⟨[.c (.sl bf .bG),.I,.I],[tmf [.D .U],tmf [.I]],0,[(0,5,36,.bool)],[],[(0,39,.U),(0,74,.U),(0,77,.bool),(1080000,10,.I),(1080000,39,.I)],[]⟩
def om:Nat->List Instr×Int×List Instr×Int×Int×Int×tmI->Option (Int⊕(List Instr×Int×tmI))|0,_=>none|k+1,(g,e,h,i,a,j,b)=>cond (a<i) ((idx h a).bind λc=>(Ox N (c.1,c.2.1,c.2.2.1,c.2.2.2)).bind λd=>cond (d.2.2!=0) (some (Sum.inl d.2.2)) ((Sv N d.2.1).bind λf=>aL (gB a b.length) ((b[a.toNat]?).bind λn=>(Sv N d.1).bind λl=>aL (gB a (b.set a.toNat f).length) (((b.set a.toNat f)[a.toNat]?).bind λm=>aL (!(e<0)) (cond ((Int.fdiv (DS .u64 l m) (2^min e.toNat 64))!=0) (some (Sum.inl 16)) (om k (g,e,h,i,(av (a+1)),j,(b.set a.toNat f)))))))) (some (Sum.inr (g,j,b)))
def XN:=(XM N).l N 11 (tm [(0,.c (.sl bf .bG)),(2,.I),(4,.P 0 4 0),(9,.P 0 9 1),(40,.c (.sl bf .bG)),(41,.I),(42,.I)] [] [(0,4,.box 0 [.I]),(0,9,.box 1 [.ref 0 39 2 .U]),(0,39,.row 2 .U)] 1 [] 3) [tmr [(6,.N),(7,.I)],(.exit 0,tm [(0,.c (.sl bf .bG)),(4,.P 0 4 0),(9,.P 0 9 1)] [] [(0,4,.box 0 [.I]),(0,9,.box 1 [.ref 0 39 2 .U]),(0,39,.row 2 .U)] 1 [] 3)]
theorem at0:lpT (XN N) (om N):=lpI
def iV(N:Nat):Nat->List Instr×Int×tmI×Int×Int×Int×List Bool×tmI×tmI×tmI->Option (List Instr×Int×List Bool×tmI×tmI×tmI)|0,_=>none|k+1,(i,d,j,l,h,f,c,b,g,e)=>cond (h<l) ((idx j h).bind λa=>cond (d<0) (aL (!(f<0)) (aL (gB a c.length) ((c[a.toNat]?).bind λs=>aL (gB a b.length) ((b[a.toNat]?).bind λt=>aL (room (e.length+1) 8) (iV N k (i,d,j,l,(av (h+1)),f,(c.set a.toNat true),(b.set a.toNat (aR ((aR (1*(2^min f.toNat 64)))-1))),g,(e++[a]))))))) (aL (gB d b.length) ((b[d.toNat]?).bind λm=>aL (gB d g.length) ((g[d.toNat]?).bind λn=>aL (gB a c.length) ((c[a.toNat]?).bind λp=>cond (!p) (aL (gB a c.length) ((c[a.toNat]?).bind λu=>aL (gB a b.length) ((b[a.toNat]?).bind λv=>aL (room (e.length+1) 8) (iV N k (i,d,j,l,(av (h+1)),f,(c.set a.toNat true),(b.set a.toNat (DS .u64 m n)),g,(e++[a])))))) (aL (gB a b.length) ((b[a.toNat]?).bind λq=>aL (gB a b.length) ((b[a.toNat]?).bind λo=>aL (gB a b.length) ((b[a.toNat]?).bind λw=>aL (gB a (b.set a.toNat (vF .u64 o (DS .u64 m n))).length) (((b.set a.toNat (vF .u64 o (DS .u64 m n)))[a.toNat]?).bind λr=>cond (r !=q) (aL (room (e.length+1) 8) (iV N k (i,d,j,l,(av (h+1)),f,c,(b.set a.toNat (vF .u64 o (DS .u64 m n))),g,(e++[a])))) (iV N k (i,d,j,l,(av (h+1)),f,c,(b.set a.toNat (vF .u64 o (DS .u64 m n))),g,e)))))))))))) (i,f,c,b,g,e)
def XO:=(XN N).L N 1080000 11 267 11 (tm [(0,.c (.sl bf .bG)),(1,.fG 285 [.P 0 4 0,.P 0 16 1,.P 0 15 2,.P 0 9 3]),(4,.R 1 10 4 .I),(5,.I),(27,.D .I),(28,.I),(29,.I)] [[(15,.P 0 15 2)]] [(0,4,.box 0 [.I]),(0,16,.box 1 [.ref 0 77 5 .bool]),(0,77,.row 5 .bool),(0,15,.box 2 [.ref 0 74 6 .U]),(0,74,.row 6 .U),(0,9,.box 3 [.ref 0 39 7 .U]),(0,39,.row 7 .U),(1,10,.row 4 .I)] 2 [] 8) [(.exit 2,tm [(0,.c (.sl bf .bG)),(1,.fG 285 [.P 0 4 0,.P 0 16 1,.P 0 15 2,.P 0 9 3]),(4,.R 1 10 4 .I)] [[(15,.P 0 15 2)]] [(0,4,.box 0 [.I]),(0,16,.box 1 [.ref 0 77 5 .bool]),(0,77,.row 5 .bool),(0,15,.box 2 [.ref 0 74 6 .U]),(0,74,.row 6 .U),(0,9,.box 3 [.ref 0 39 7 .U]),(0,39,.row 7 .U),(1,10,.row 4 .I)] 2 [] 8)]
theorem at3:lpT (XO N) (iV N):=lpI
def oo:Nat->List Instr×Int×List Bool×tmI×tmI×tmI->Option tmI|0,_=>none|k+1,(c,g,h,d,i,a)=>cond ((a.length:Int)>0) (aL (gB (av ((a.length:Int)-1)) a.length) ((a[(Int.toNat (av ((a.length:Int)-1)))]?).bind λe=>aL (decide (0<=(av ((a.length:Int)-1)))) (aL (decide ((Int.toNat (av ((a.length:Int)-1)))<=a.length)) ((Ov N (c,e)).bind λf=>(iV N N (c,e,f,(f.length:Int),0,g,h,d,i,(a.take (Int.toNat (av ((a.length:Int)-1)))))).bind λb=>oo k (b.1,b.2.1,b.2.2.1,b.2.2.2.1,b.2.2.2.2.1,b.2.2.2.2.2))))) d
def auA:=(XO N).L N 1080000 3 267 3 (tm [(0,.c (.sl bf .bG)),(1,.fG 285 [.P 0 4 0,.P 0 16 1,.P 0 15 2,.P 0 9 3]),(4,.R 1 10 4 .I)] [[(15,.P 0 15 2)]] [(0,4,.box 0 [.I]),(0,16,.box 1 [.ref 0 77 5 .bool]),(0,77,.row 5 .bool),(0,15,.box 2 [.ref 0 74 6 .U]),(0,74,.row 6 .U),(0,9,.box 3 [.ref 0 39 7 .U]),(0,39,.row 7 .U),(1,10,.row 4 .I)] 2 [] 8) [(.exit 0,tm [] [[(15,.P 0 15 0)]] [(0,15,.box 0 [.ref 0 74 1 .U]),(0,74,.row 1 .U)] 2 [] 2)]
theorem at4:lpT (auA N) (oo N):=lpJ λk=>funext λ⟨a,b,c,d,e,f⟩=>by rw[oo,at3 N N];kernel_rfl
def LU:List Instr×Int×Int->Option (tmI×Int)|(b,e,d)=>(Ou N b).bind λf=>cond (f !=0) (some ([],f)) ((cond (d<0) (some true) (cond (d>16) (some true) (cond (e<0) (some true) (some (decide (e>d)))))).bind λg=>cond g (some ([],2)) (aL (decide (0<=(b.length:Int))) (aL (decide (0<=(b.length:Int))) (aL (decide ((Int.toNat (b.length:Int))<=(Int.toNat (b.length:Int)))&&room (Int.toNat (b.length:Int)) 8) ((om N N (b,d,b,(b.length:Int),0,e,(List.replicate (Int.toNat (b.length:Int)) (0:Int)))).bind λh=>match h with|.inl i=>some ([],i)|.inr a=>aL (decide (0<=(a.1.length:Int))) (aL (decide (0<=(a.1.length:Int))) (aL (decide ((Int.toNat (a.1.length:Int))<=(Int.toNat (a.1.length:Int)))&&room (Int.toNat (a.1.length:Int)) 8) (aL (decide (0<=(a.1.length:Int))) (aL (decide (0<=(a.1.length:Int))) (aL (decide ((Int.toNat (a.1.length:Int))<=(Int.toNat (a.1.length:Int)))&&room (Int.toNat (a.1.length:Int)) 1) (aL (!(a.2.1<0)) (aL (gB 0 (List.replicate (Int.toNat (a.1.length:Int)) false).length) (((List.replicate (Int.toNat (a.1.length:Int)) false)[(Int.toNat 0)]?).bind λj=>aL (gB 0 (List.replicate (Int.toNat (a.1.length:Int)) (0:Int)).length) (((List.replicate (Int.toNat (a.1.length:Int)) (0:Int))[(Int.toNat 0)]?).bind λl=>(oo N N (a.1,a.2.1,((List.replicate (Int.toNat (a.1.length:Int)) false).set (Int.toNat 0) true),((List.replicate (Int.toNat (a.1.length:Int)) (0:Int)).set (Int.toNat 0) (aR ((aR (1*(2^min a.2.1.toNat 64)))-1))),a.2.2,[0])).bind λc=>aL (gB (av ((c.length:Int)-1)) c.length) ((c[(Int.toNat (av ((c.length:Int)-1)))]?).bind λm=>some ((c.set (Int.toNat (av ((c.length:Int)-1))) 0),0))))))))))))))))
def ahg:=(auA N).p (LU N) (by delta LU;rw[at0 N N,at4 N N];kernel_rfl)
def XP:=(ahg N).on 198 ⟨[.c (.sl .U .bG)],[tmf [.D iM],tmf [.I]],0,[(0,13,31,.bool)],[],[(0,39,iM)],[]⟩
def zP(N:Nat):Nat->tmI×List fm×Int×Int->Option (List fm)|0,_=>none|k+1,(b,c,d,a)=>cond (a<d) ((cond (a>0) ((idx b a).bind λe=>(idx b (av (a-1))).bind λf=>some (e==f)) (some false)).bind λg=>cond g (zP N k (b,c,d,(av (a+1)))) ((idx b a).bind λh=>aL (room (c.length+1) 16) (zP N k (b,(c++[(a,h)]),d,(av (a+1)))))) c
def auB:=(XP N).l N 8 (tmv [(0,.c (.sl .U .bG)),(5,.A iM 0),(14,.I),(15,.I)] 0 1) [(.exit 0,tmv [(5,.A iM 0)] 0 1)]
theorem at5:lpT (auB N) (zP N):=lpI
def Sw:tmI->Option (List fm×Int)|a=>(Sp N (a.length:Int)).bind λb=>cond (b !=0) (some ([],b)) ((zP N N (a,[],(a.length:Int),0)).bind λc=>some (c,0))
def ahi:=(auB N).p (Sw N) (by delta Sw;rw[at5 N N];kernel_rfl)
def XQ:=(ahi N).on 122 ⟨[.agg (bn aZ),.I],[(true,(bn abk))],0,[(0,7,53,.bool),(0,51,139,.bool)],[],[],[]⟩
def PQ:Nat->List Instr×List Bool×List Instr×Qh dP->Option ((Int×Int)⊕(List Instr×Int×Int×dP))|0,_=>none|k+1,(n,o,p,q,b,r,s,c,d,e,f,g,h,i,j,l,m)=>cond (b<q) ((idx p b).bind λa=>(Xo N (c,d,e,f,g,h,i,j,l,m,a.1,a.2.1,a.2.2.1,a.2.2.2)).bind λt=>cond (t !=0) (some (Sum.inl (b,16))) ((idx o b).bind λu=>cond (!u) (some (Sum.inl (b,6))) ((XA N (c,d,e,f,g,h,i,j,l,m,a.1,a.2.1,a.2.2.1,a.2.2.2)).bind λv=>cond (!v) (some (Sum.inl (b,30))) (PQ k (n,o,p,q,(av (b+1)),r,s,c,d,e,f,g,h,i,j,l,m))))) (some (Sum.inr (n,r,s,c,d,e,f,g,h,i,j,l,m)))
def XR:=(XQ N).l N 12 (tm [(4,.P 0 4 0),(5,.P 0 5 1),(6,.D bf),(7,.D .bool),(55,.D bf),(56,.I),(57,.I)] [] [(0,4,.box 0 [.nil true,.nil true,.I,.I]),(0,5,.box 1 (bn bL))] 1 [] 2) [(.ret,tm [(4,.P 0 4 0)] [] [(0,4,.box 0 [.nil true,.nil true,.I,.I])] 1 [] 1),(.exit 0,tm [(4,.P 0 4 0),(5,.P 0 5 1),(6,.D bf)] [] [(0,4,.box 0 [.nil true,.nil true,.I,.I]),(0,5,.box 1 (bn bL))] 1 [] 2)]
theorem at6:lpT (XR N) (PQ N):=lpI
def zQ(N:Nat):Nat->tmI×tmI×Int×Int×List Instr×Int×Int×Ch->Option ((Int×Int)⊕(tmI×tmI×List Instr×Cg))|0,_=>none|k+1,(d,a,b,e,f,g,h,i,j,c,l,m)=>cond (c<j) ((idx i c).bind λn=>(cond (e !=0) (some true) ((idx a b).bind λo=>aL (!(n<0)) (some ((vF .u64 (Int.fdiv o (2^min n.toNat 64)) 1)==0)))).bind λp=>cond p (some (Sum.inl (b,38))) (zQ N k (d,a,b,e,f,g,h,i,j,(av (c+1)),l,m))) (some (Sum.inr (d,a,f,g,h,l,m)))
def XS:=(XR N).l N 46 (tm [(4,.P 0 4 0),(11,.D .U),(13,.D .U),(14,.I),(18,.I),(109,.D bf),(110,.I),(111,.I),(122,.D .I),(123,.I),(124,.I)] [] [(0,4,.box 0 [.nil true,.nil true,.I,.I])] 1 [] 1) [(.ret,tm [(4,.P 0 4 0)] [] [(0,4,.box 0 [.nil true,.nil true,.I,.I])] 1 [] 1),(.exit 5,tm [(4,.P 0 4 0),(11,.D .U),(13,.D .U),(109,.D bf),(110,.I),(111,.I)] [] [(0,4,.box 0 [.nil true,.nil true,.I,.I])] 1 [] 1)]
theorem at7:lpT (XS N) (zQ N):=lpI
def DU:Nat->tmI×tmI×List Instr×Cg->Option ((Int×Int)⊕(tmI×tmI×Int×Int))|0,_=>none|k+1,(e,f,g,h,b,i,j)=>cond (b<h) ((idx g b).bind λc=>(Ox N (c.1,c.2.1,c.2.2.1,c.2.2.2)).bind λd=>(zQ N N (e,f,b,d.2.2,g,h,b,d.1,(d.1.length:Int),0,i,j)).bind λm=>match m with|.inl l=>some (Sum.inl (l.1,l.2))|.inr a=>DU k (a.1,a.2.1,a.2.2.1,a.2.2.2.1,(av (a.2.2.2.2.1+1)),a.2.2.2.2.2.1,a.2.2.2.2.2.2)) (some (Sum.inr (e,f,i,j)))
def auC:=(XS N).l N 38 (tm [(4,.P 0 4 0),(11,.D .U),(13,.D .U),(109,.D bf),(110,.I),(111,.I)] [] [(0,4,.box 0 [.nil true,.nil true,.I,.I])] 1 [] 1) [(.ret,tm [(4,.P 0 4 0)] [] [(0,4,.box 0 [.nil true,.nil true,.I,.I])] 1 [] 1),(.exit 3,tm [(4,.P 0 4 0),(11,.D .U),(13,.D .U)] [] [(0,4,.box 0 [.nil true,.nil true,.I,.I])] 1 [] 1)]
theorem at8:lpT (auC N) (DU N):=lpJ λk=>funext λ⟨a,b,c,d,e,f,g⟩=>by rw[DU,at7 N N];kernel_rfl
def XV:cx Int->Option Qi|(n,o,e,f)=>(idx e f).bind λb=>(Xl N b.2.2.2.2.1).bind λg=>cond (g.2!=0) (some ([],[],(-1),12)) ((cond (f==0) (cond (b.2.1>0) (some true) (some (decide (b.2.2.1>=0)))) (some false)).bind λp=>cond p (some ([],[],(-1),30)) ((PQ N N (b.2.2.2.2.1,g.1,b.2.2.2.2.1,(b.2.2.2.2.1.length:Int),0,0,0,n,o,e,b.1,b.2.1,b.2.2.1,b.2.2.2.1,b.2.2.2.2.1,b.2.2.2.2.2.1,b.2.2.2.2.2.2)).bind λq=>match q with|.inl h=>some ([],[],h.1,h.2)|.inr a=>(Su N (a.2.2.2.1,a.2.2.2.2.1,a.2.2.2.2.2.1,a.2.2.2.2.2.2.1,a.2.2.2.2.2.2.2.1,a.2.2.2.2.2.2.2.2.1,a.2.2.2.2.2.2.2.2.2.1,a.2.2.2.2.2.2.2.2.2.2.1,a.2.2.2.2.2.2.2.2.2.2.2.1,a.2.2.2.2.2.2.2.2.2.2.2.2)).bind λi=>cond (!i.2) (some ([],[],(-1),36)) ((LU N (a.1,a.2.2.2.2.2.2.2.1,(a.2.2.2.2.2.2.2.2.2.1.length:Int))).bind λd=>cond (d.2!=0) (some ([],[],(-1),d.2)) ((DU N N (i.1,d.1,a.1,(a.1.length:Int),0,a.2.1,a.2.2.1)).bind λr=>match r with|.inl j=>some ([],[],j.1,j.2)|.inr l=>(Sw N l.1).bind λc=>cond (c.2==0) ((Sw N l.2.1).bind λm=>some (c.1,m.1,0,m.2)) (some (c.1,[],0,c.2))))))
def ahk:=(auC N).p (XV N) (by delta XV;rw[at6 N N,at8 N N];kernel_rfl)
def XX:=(ahk N).on 123 (sg [.c (.sl iM .bG),.c (.sl iM .bG)] [tmf [.bool]])
def P1(N:Nat):Nat->Qi->Option (Bool⊕Unit)|0,_=>none|k+1,(b,c,d,a)=>cond (a<d) ((idx b a).bind λe=>(idx c a).bind λf=>cond (!(e.1==f.1&&(e.2==f.2&&true))) (some (Sum.inl false)) (P1 N k (b,c,d,(av (a+1))))) (some (Sum.inr ()))
def auD:=(XX N).l N 6 (tmn [(0,.c (.sl iM .bG)),(1,.c (.sl iM .bG)),(12,.I),(13,.I)]) [tmr [(4,.Q)],tmx]
theorem au0:lpT (auD N) (P1 N):=lpI
def LV:List fm×List fm->Option Bool|(a,b)=>cond ((a.length:Int)!=(b.length:Int)) false ((P1 N N (a,b,(a.length:Int),0)).bind λc=>match c with|.inl d=>d|.inr e=>true)
def ahm:=(auD N).p (LV N) (by delta LV;rw[au0 N N];kernel_rfl)
def adL:=(ahm N).on 83 ⟨[.agg (bn aZ)],[tmf [.I],tmf [.I],tmf [.I]],0,[(0,13,43,.bool)],[],[],[]⟩
def P2:Nat->List Func×Int×Int×dJ->Option ((Int×Int×Int)⊕Unit)|0,_=>none|k+1,(c,d,a,e,f,g)=>cond (a<d) ((idx c a).bind λh=>(XV N (e,f,g,a)).bind λb=>(cond (b.2.2.2==0) ((LV N (b.1,h.2.2.2.2.2.1)).bind λi=>cond (!i) (some true) ((LV N (b.2.1,h.2.2.2.2.2.2)).bind λj=>some (!j))) (some false)).bind λl=>cond l (some (Sum.inl (a,(-1),32))) (cond (b.2.2.2!=0) (some (Sum.inl (a,b.2.2.1,b.2.2.2))) (P2 k (c,d,(av (a+1)),e,f,g)))) (some (Sum.inr ()))
def aw8:=(adL N).l N 7 (tm [(1,.P 0 1 0),(15,.D ec),(16,.I),(17,.I)] [] [(0,1,.box 0 (bn aZ))] 1 [] 1) [tmr [(2,.I),(3,.I),(4,.I)],tmx]
theorem au1:lpT (aw8 N) (P2 N):=lpI
def F83:dJ->Option (Int×Int×Int)|(c,d,a)=>(F91 N (c,d,a)).bind λe=>cond (e !=0) (some (0,0,e)) ((P2 N N (a,(a.length:Int),0,c,d,a)).bind λf=>match f with|.inl b=>(b.1,b.2.1,b.2.2)|.inr g=>some (0,0,0))
def G83:=(aw8 N).p (F83 N) (by delta F83;rw[au1 N N];kernel_rfl)
def F46:dJ->Option Int|(a,b,c)=>(F83 N (a,b,c)).bind λd=>d.2.2
def G46:=((G83 N).on 46 (sg [.agg (cT aZ)] [tmf [.I]])).p (F46 N)
def F63(N:Nat):Int×Int×Int->Option Bool|(a,b,c)=>(cond (a>=b) (some (decide (a<=c))) (some false)).bind λd=>d
def G63:=((G46 N).on 63 ⟨[.I,.I,.I],[tmf [.bool]],0,[(0,1,6,.bool)],[],[],[]⟩).p (F63 N)
def F65:Int->Option Bool|a=>(F63 N (a,0,65535)).bind λb=>some (!b)
def G65:=((G63 N).on 65 (sg [.I] [tmf [.bool]])).p (F65 N)
def adM:=(G65 N).on 30 ⟨[.agg (cT I6)],[tmf [.I]],0,[(0,2,4,.bool)],[],[],[]⟩
def Vy:Nat->tmI×Int×Int->Option (Int⊕Unit)|0,_=>none|k+1,(b,c,a)=>cond (a<c) ((idx b a).bind λd=>(F65 N d).bind λe=>cond e (some (Sum.inl a)) (Vy k (b,c,(av (a+1))))) (some (Sum.inr ()))
def axj:=(adM N).L N 1036001007000 3 101 3 (tm [(0,.c (.sl .I .bG)),(1,.fG 65 []),(7,.I),(8,.I)] [[],[]] [] 3 [] 0) [(.ret,tm [(4,.I)] [[],[]] [] 3 [] 0),(.exit 0,tm [] [[],[]] [] 3 [] 0)]
theorem au2:lpT (axj N) (Vy N):=lpI
def F30:Ch->Option Int|(a,b,c,d,e)=>((F63 N (b,1,5000)).bind λf=>cond f ((F63 N (c,0,4096)).bind λg=>cond g ((F63 N (d,0,16384)).bind λh=>cond h ((F63 N (e,1,16)).bind λi=>cond i (some (decide ((a.length:Int)<=2000))) (some false)) (some false)) (some false)) (some false)).bind λj=>cond (!j) (some 8) ((Vy N N (a,(a.length:Int),0)).bind λl=>match l with|.inl m=>cond (m>=0) (some 8) (some 0)|.inr n=>some 0)
def G30:=(axj N).p (F30 N) (by delta F30;rw[au2 N N];kernel_rfl)
def F84(N:Nat):Int×tmI×Int->Option Int|(c,a,b)=>(cond (c !=65536) (some true) (cond ((Int.tmod (a.length:Int) 8)!=0) (some true) (some (decide ((a.length:Int)>16384))))).bind λd=>cond d (some 8) ((cond (b<0) (some true) (some (decide (b>16384)))).bind λe=>cond e (some 2) (some 0))
def G84:=((G30 N).on 84 ⟨[.agg (cT bF),.I],[tmf [.I]],0,[(0,1,20,.bool),(0,4,26,.bool)],[],[],[]⟩).p (F84 N)
def F47:Int×tmI×Int->Option (Int×Int)|(d,a,b)=>(F84 N (d,a,b)).bind λc=>cond (c !=0) (some (0,c)) (some ((max 0 (av ((av (Int.tdiv (av (b-(a.length:Int))) 8))*8))),0))
def G47:=((G84 N).on 47 (sg [.agg (cT bF),.I] [tmf [.I],tmf [.I]])).p (F47 N)
def Oz(N:Nat):Int->Option Int|a=>some (aR (16777216*(aR (av (a+1)))))
def aof:=((G47 N).on 124 (sg [.I] [tmf [.U]])).p (Oz N)
def Sx(N:Nat):Int->Option Bool|a=>(cond (a>=256) (some (decide (a<8448))) (some false)).bind λb=>b
def aoi:=((aof N).on 125 ⟨[.U],[tmf [.bool]],0,[(0,1,2,.bool)],[],[],[]⟩).p (Sx N)
def LW(N:Nat):Int->Option Bool|a=>(cond (a==0) (some true) (cond ((Int.tmod a 8)==0) (some (decide (a>=65536))) (some false))).bind λb=>b
def aol:=((aoi N).on 126 ⟨[.U],[tmf [.bool]],0,[(0,1,2,.bool)],[],[],[]⟩).p (LW N)
def F85:Int×Lx->Option Bool|(c,b,d,a,e,f,h)=>cond (b==3) ((Oz N c).bind λi=>some (b==3&&(d==0&&(a==i&&(e==0&&(f==0&&(h==0&&true))))))) ((Oz N c).bind λg=>((Oz N c).bind λj=>cond (a<j) (some true) (cond ((aR (a-g))<24) (some true) (cond ((aR (a-g))>4096) (some true) (some ((Int.tmod (aR (a-g)) 8)!=0))))).bind λl=>cond l false ((cond (b==2) ((Sx N d).bind λm=>cond m ((LW N e).bind λn=>cond n ((LW N f).bind λo=>some o) (some false)) (some false)) (cond (b==1) (cond (h==0) ((Sx N d).bind λp=>cond p ((LW N e).bind λq=>cond q ((LW N f).bind λr=>some r) (some false)) (some false)) (some false)) (some false))).bind λs=>s))
def G85:=((aol N).on 85 ⟨[.I,.agg (bn iu)],[tmf [.bool]],0,[(0,5,36,.bool),(0,8,4,.bool)],[],[],[]⟩).p (F85 N)
def adN:=(G85 N).on 48 ⟨[.c (.sl iu .bG)],[tmf [.I]],0,[(0,1,12,.bool)],[],[],[]⟩
def QP:Nat->List dy×Int×Int->Option (Int⊕Unit)|0,_=>none|k+1,(c,d,b)=>cond (b<d) ((idx c b).bind λa=>(F85 N (b,a.1,a.2.1,a.2.2.1,a.2.2.2.1,a.2.2.2.2.1,a.2.2.2.2.2)).bind λe=>cond (!e) (some (Sum.inl 8)) (QP k (c,d,(av (b+1))))) (some (Sum.inr ()))
def axv:=(adN N).l N 6 (tmn [(13,.c (.sl iu .bG)),(14,.I),(15,.I)]) [tmr [(2,.I)],tmx]
theorem au3:lpT (axv N) (QP N):=lpI
def F48:List dy->Option Int|a=>(cond ((a.length:Int)<1) (some true) (some (decide ((a.length:Int)>16)))).bind λb=>cond b (some 8) ((QP N N (a,(a.length:Int),0)).bind λc=>match c with|.inl d=>d|.inr e=>some 0)
def G48:=(axv N).p (F48 N) (by delta F48;rw[au3 N N];kernel_rfl)
def F87(N:Nat):Unit->Option (Int×tmI)|()=>some (65536,[])
def G87:=((G48 N).on 87 (sg [] [(true,(bn bF))])).p (F87 N)
def Sy(N:Nat):Int->Option Int|a=>some (max 8 (av ((av (Int.tdiv (av (a+7)) 8))*8)))
def aoq:=((G87 N).on 199 (sg [.I] [tmf [.I]])).p (Sy N)
def abt(N:Nat):Int->Option Bool|a=>(cond (a>=8) (cond (a<=1099511627776) (some ((Int.tmod a 8)==0)) (some false)) (some false)).bind λb=>b
def aot:=((aoq N).on 297 ⟨[.U],[tmf [.bool]],0,[(0,1,2,.bool)],[],[],[]⟩).p (abt N)
def OA:Int×tmI->Option Int|(a,b)=>((abt N a).bind λc=>cond (!c) (some true) (some (decide ((b.length:Int)>20000)))).bind λd=>cond d (some 8) (some 0)
def aow:=((aot N).on 210 ⟨[.agg (cT bF)],[tmf [.I]],0,[(0,1,12,.bool)],[],[],[]⟩).p (OA N)
def XY:Int×tmI×Int->Option (Int×tmI×Int)|(b,c,a)=>(OA N (b,c)).bind λd=>cond (d !=0) (some (0,[],d)) ((cond (a<0) (some true) (some (decide (a>20000)))).bind λe=>cond e (some (0,[],2)) (aL (decide (0<=a)) (aL (decide (0<=a)) (aL (decide (a.toNat<=a.toNat)&&room a.toNat 1) (some (b,(Dd c (List.replicate a.toNat (0:Int))),0))))))
def aoz:=((aow N).on 200 ⟨[.agg (cT bF),.I],[(true,(bn bF)),tmf [.I]],2,[(0,5,19,.bool)],[],[(0,22,.B)],[]⟩).p (XY N)
def XZ:Int×tmI×Int×Int->Option (Int×tmI×Int×Int)|(c,a,b,f)=>(F47 N (c,a,f)).bind λd=>cond (d.2!=0) (some (0,[],0,d.2)) ((cond (b<0) (some true) (some (decide (b>4096)))).bind λg=>cond g (some (0,[],0,2)) ((Sy N b).bind λh=>cond (h>d.1) (some (0,[],0,18)) ((Sy N b).bind λi=>(XY N (c,a,(av ((a.length:Int)+i)))).bind λe=>some (e.1,e.2.1,(aR (c+(aR (a.length:Int)))),e.2.2))))
def aoC:=((aoz N).on 127 ⟨[.agg (cT bF),.I,.I],[(true,(bn bF)),tmf [.U],tmf [.I]],2,[(0,5,27,.bool)],[],[],[]⟩).p (XZ N)
def OB(N:Nat):Int×tmI×Int×Int->Option (Int×Bool)|(a,c,b,d)=>(cond (b<a) (some true) (some (decide ((aR (b-a))>(aR (c.length:Int)))))).bind λe=>cond e (some (0,false)) (some ((av (aR (b-a))),(decide (d<=(av ((c.length:Int)-(av (aR (b-a)))))))))
def aoF:=((aoC N).on 201 ⟨[.agg (cT bF),.U,.I],[tmf [.I],tmf [.bool]],0,[(0,1,23,.bool)],[],[],[]⟩).p (OB N)
def Sz:Int×tmI×Int×Int->Option (Bool×Int)|(a,b,e,c)=>(OA N (a,b)).bind λd=>cond (d !=0) (false,d) (cond (c<0) (some (false,2)) ((OB N (a,b,e,c)).bind λf=>some (f.2,0)))
def aoI:=((aoF N).on 132 (sg [.agg (cT bF),.U,.I] [tmf [.bool],tmf [.I]])).p (Sz N)
def X0:Int×tmI×Int×tmI->Option (Int×tmI×Int)|(d,a,f,c)=>(Sz N (d,a,f,(c.length:Int))).bind λe=>cond (e.2!=0) (some (0,[],e.2)) (cond (!e.1) (some (0,[],16)) ((OB N (d,a,f,(c.length:Int))).bind λb=>aL (room a.length 1) (aL (decide (0<=b.1)) (aL (decide (b.1.toNat<=a.length)) (aL (decide (b.1.toNat+(a.length-b.1.toNat)<=a.length)) (some (d,(a.take b.1.toNat++(c.take (min c.length (a.length-b.1.toNat))++a.drop (b.1.toNat+(c.take (min c.length (a.length-b.1.toNat))).length))),0)))))))
def aoL:=((aoI N).on 128 (sg [.agg (cT bF),.U,.c (.sl .B .bG)] [(true,(bn bF)),tmf [.I]])).p (X0 N)
def F88:Int×tmI×tmI×Int->Option (Int×tmI×Int×Int)|(d,e,c,f)=>(XZ N (d,e,(c.length:Int),f)).bind λa=>cond (a.2.2.2!=0) (some (0,[],0,a.2.2.2)) ((X0 N (a.1,a.2.1,a.2.2.1,c)).bind λb=>(b.1,b.2.1,a.2.2.1,b.2.2))
def G88:=((aoL N).on 88 (sg [.agg (cT bF),.c (.sl .B .bG),.I] [(true,(bn bF)),tmf [.U],tmf [.I]])).p (F88 N)
def adO:=(G88 N).on 49 ⟨[.c (.sl .str .bG),.I],[(true,(bn bF)),tmf [.D .U],tmf [.I]],0,[],[],[(0,61,.U)],[]⟩
def QQ(N:Nat):Nat->List (List UInt8)×Int×List (List UInt8)×Int×Int×Int×tmI×Int->Option ((Int×tmI×Int)⊕(List (List UInt8)×Int×Int×tmI×Int))|0,_=>none|k+1,(d,e,f,g,a,b,c,h)=>cond (a<g) ((idx f a).bind λi=>cond ((i.length:Int)>64) (some (Sum.inl (b,c,2))) (QQ N k (d,e,f,g,(av (a+1)),b,c,h))) (some (Sum.inr (d,e,b,c,h)))
def adP:=(adO N).l N 13 (tm [(0,.c (.sl .str .bG)),(1,.I),(4,.P 0 4 0),(5,.P 0 5 1),(6,.P 0 6 2),(12,.fG 86 [.P 0 6 2,.P 0 4 0,.P 0 5 1]),(27,.c (.sl .str .bG)),(28,.I),(29,.I)] [] [(0,4,.box 0 (bn bF)),(0,5,.box 1 [.nil true]),(0,6,.box 2 [.I])] 1 [] 3) [(.exit 1099511627776,tm [(4,.P 0 4 0),(5,.P 0 5 1),(6,.P 0 6 2),(12,.fG 86 [.P 0 6 2,.P 0 4 0,.P 0 5 1])] [] [(0,4,.box 0 (bn bF)),(0,5,.box 1 [.nil true]),(0,6,.box 2 [.I])] 1 [] 3),(.exit 0,tm [(0,.c (.sl .str .bG)),(1,.I),(4,.P 0 4 0),(5,.P 0 5 1),(6,.P 0 6 2),(12,.fG 86 [.P 0 6 2,.P 0 4 0,.P 0 5 1])] [] [(0,4,.box 0 (bn bF)),(0,5,.box 1 [.nil true]),(0,6,.box 2 [.I])] 1 [] 3)]
theorem au4:lpT (adP N) (QQ N):=lpI
def pL:Nat->Int×List (List UInt8)×Int×Int×Int×tmI×tmI×Int->Option ((Int×tmI×tmI×Int)⊕(Int×tmI×tmI×Int))|0,_=>none|k+1,(d,e,f,c,g,h,b,i)=>cond (c<f) ((idx e c).bind λj=>(F88 N (g,h,(bN j),d)).bind λa=>cond (a.2.2.2!=0) (some (Sum.inl (a.1,a.2.1,b,a.2.2.2))) (aL (room (b.length+1) 8) (pL k (d,e,f,(av (c+1)),a.1,a.2.1,(b++[a.2.2.1]),a.2.2.2)))) (some (Sum.inr (g,h,b,i)))
def axD:=(adP N).l N 24 (tm [(1,.I),(4,.P 0 4 0),(5,.P 0 5 1),(6,.P 0 6 2),(12,.fG 86 [.P 0 6 2,.P 0 4 0,.P 0 5 1]),(39,.c (.sl .str .bG)),(40,.I),(41,.I)] [] [(0,4,.box 0 (bn bF)),(0,5,.box 1 [.A .U 3]),(0,6,.box 2 [.I])] 1 [3] 4) [(.exit 1099511627776,tm [(4,.P 0 4 0),(5,.P 0 5 1),(6,.P 0 6 2),(12,.fG 86 [.P 0 6 2,.P 0 4 0,.P 0 5 1])] [] [(0,4,.box 0 (bn bF)),(0,5,.box 1 [.A .U 3]),(0,6,.box 2 [.I])] 1 [3] 4),(.exit 2,tm [(4,.P 0 4 0),(5,.P 0 5 1),(6,.P 0 6 2),(12,.fG 86 [.P 0 6 2,.P 0 4 0,.P 0 5 1])] [] [(0,4,.box 0 (bn bF)),(0,5,.box 1 [.A .U 3]),(0,6,.box 2 [.I])] 1 [3] 4)]
theorem au5:lpT (axD N) (pL N):=lpI
def F49:List (List UInt8)×Int->Option (Int×tmI×tmI×Int)|(f,h)=>(F87 N ()).bind λa=>(F84 N (a.1,a.2,h)).bind λd=>cond (d !=0) (cond (d !=0) (some (0,[],[],d)) (some (a.1,a.2,[],d))) (cond ((f.length:Int)>32) (some (0,[],[],4)) ((QQ N N (f,h,f,(f.length:Int),0,a.1,a.2,d)).bind λi=>match i with|.inl e=>cond (e.2.2!=0) (some (0,[],[],e.2.2)) (some (e.1,e.2.1,[],e.2.2))|.inr b=>(pL N N (b.2.1,b.1,(b.1.length:Int),0,b.2.2.1,b.2.2.2.1,[],b.2.2.2.2)).bind λj=>match j with|.inl c=>cond (c.2.2.2!=0) (some (0,[],[],c.2.2.2)) (c.1,c.2.1,c.2.2.1,c.2.2.2)|.inr g=>some (g.1,g.2.1,g.2.2.1,0)))
def G49:=(axD N).p (F49 N) (by delta F49;rw[au4 N N,au5 N N];kernel_rfl)
def F89(N:Nat):tmI×tmI->Option Bool|(a,b)=>some ((a.map λ(n:Int)=>UInt8.ofNat n.toNat)==(b.map λ(n:Int)=>UInt8.ofNat n.toNat))
def G89:=((G49 N).on 89 (sg [.c (.sl .B .bG),.c (.sl .B .bG)] [tmf [.bool]])).p (F89 N)
def F50:tmI×tmI->Option Bool|(b,a)=>(cond ((b.length:Int)>=(a.length:Int)) (aL (decide (0<=(a.length:Int))) (aL (decide ((Int.toNat (a.length:Int))<=b.length)) ((F89 N ((b.take (Int.toNat (a.length:Int))),a)).bind λc=>some c))) (some false)).bind λd=>d
def G50:=((G89 N).on 50 ⟨[.c (.sl .B .bG),.c (.sl .B .bG)],[tmf [.bool]],0,[(0,1,4,.bool)],[],[],[]⟩).p (F50 N)
def F90(N:Nat):Int×tmI->Option Int|(a,b)=>(cond ((Int.tmod a 16777216)!=0) (some true) (cond ((aR (Int.tdiv a 16777216))<1) (some true) (cond ((aR (Int.tdiv a 16777216))>16) (some true) (cond ((Int.tmod (b.length:Int) 8)!=0) (some true) (some (decide ((b.length:Int)>4096))))))).bind λc=>cond c (some 8) (some 0)
def G90:=((G50 N).on 90 ⟨[.agg (cT bF)],[tmf [.I]],0,[(0,2,31,.bool)],[],[],[]⟩).p (F90 N)
def F92:cx Int->Option (Int×Int×Int)|(d,e,b,a)=>(F91 N (d,e,b)).bind λc=>cond (c !=0) (some (0,0,c)) ((cond ((Int.fdiv a 256)==0) (some true) (cond ((Int.fdiv a 256)>(aR (b.length:Int))) (some true) ((idx b (aR ((Int.fdiv a 256)-1))).bind λf=>some (decide ((av (vF .u64 a 255))>=(f.2.2.2.2.1.length:Int)))))).bind λg=>cond g (some (0,0,6)) (some ((av ((av (Int.fdiv a 256))-1)),(av (vF .u64 a 255)),0)))
def G92:=((G90 N).on 92 ⟨[.agg (cT aZ),.U],[tmf [.I],tmf [.I],tmf [.I]],0,[(0,6,40,.bool)],[],[],[]⟩).p (F92 N)
def X6:=(G92 N).on 143 ⟨[.c (.sl bM .bG),.c (.sl dc .bG)],[tmf [.D .I],tmf [.I],tmf [.I],tmf [.I]],0,[(0,16,40,.bool)],[],[],[]⟩
def DV(N:Nat):Nat->List aB×List Field×List pH×List Field×Int×Int->Option ((Int×Int×Int)⊕(List Field×List pH))|0,_=>none|k+1,(b,c,d,e,f,a)=>cond (a<f) ((idx e a).bind λg=>(cond (g.2<0) (some true) (some (decide (g.2>=b.length)))).bind λh=>cond h (some (Sum.inl (0,0,2))) (DV N k (b,c,d,e,f,(av (a+1))))) (some (Sum.inr (c,d)))
def X7:=(X6 N).l N 11 (tmn [(0,.c (.sl bM .bG)),(1,.c (.sl dc .bG)),(9,.D ff),(25,.c (.sl dc .bG)),(26,.I),(27,.I)]) [tmr [(4,.N),(5,.I),(6,.I),(7,.I)],(.exit 0,tmn [(1,.c (.sl dc .bG)),(9,.D ff)])]
theorem au6:lpT (X7 N) (DV N):=lpI
def DW(N:Nat):Nat->List Field×List pH×List Field×Int×Int->Option ((Int×Int×Int)⊕(List Field×List pH))|0,_=>none|k+1,(c,a,d,e,b)=>cond (b<e) ((idx d b).bind λf=>(idx a f.2).bind λg=>cond (g.1>256) (some (Sum.inl (0,0,16))) (DW N k (c,a,d,e,(av (b+1))))) (some (Sum.inr (c,a)))
def auN:=(X7 N).l N 22 (tmn [(1,.c (.sl dc .bG)),(9,.D ff),(42,.c (.sl dc .bG)),(43,.I),(44,.I)]) [tmr [(4,.N),(5,.I),(6,.I),(7,.I)],(.exit 2,tmn [(1,.c (.sl dc .bG)),(9,.D ff)])]
theorem au7:lpT (auN N) (DW N):=lpI
def Ya:List aB×List Field->Option (tmI×Int×Int×Int)|(c,a)=>(Oq N c).bind λg=>cond (g !=0) (some ([],0,0,g)) (cond ((a.length:Int)>16) (some ([],0,0,4)) ((Sm N c).bind λi=>(DV N N (c,a,i,a,(a.length:Int),0)).bind λj=>match j with|.inl d=>some ([],d.1,d.2.1,d.2.2)|.inr b=>(DW N N (b.1,b.2,b.1,(b.1.length:Int),0)).bind λl=>match l with|.inl e=>some ([],e.1,e.2.1,e.2.2)|.inr h=>(Ot N (h.2,h.1)).bind λf=>some (f.1,f.2.1,f.2.2,0)))
def aoP:=(auN N).p (Ya N) (by delta Ya;rw[au6 N N,au7 N N];kernel_rfl)
def Yb:cx Int->Option (tmI×Int)|(b,g,c,d)=>(idx c d).bind λe=>(Ya N (b,e.2.2.2.1)).bind λa=>(LS N a.2.1).bind λf=>(a.1,f.1)
def ahp:=((aoP N).on 130 (sg [.agg (cT aZ),.I] [tmf [.D .I],tmf [.I]])).p (Yb N)
def Yc:=(ahp N).on 131 ⟨[.c (.sl iM .bG),.I,.I],[tmf [.U],tmf [.I]],0,[(0,5,22,.bool)],[],[],[]⟩
def DX(N:Nat):Nat->Int×Int×List fm×Int->Option (Int×List fm)|0,_=>none|k+1,(a,b,c,d)=>cond (a<b) ((idx c (av (Int.fdiv (aR (av (a+b))) 2))).bind λe=>cond (!(decide (e.1>d))) (DX N k ((av ((av (Int.fdiv (aR (av (a+b))) 2))+1)),b,c,d)) (DX N k (a,(av (Int.fdiv (aR (av (a+b))) 2)),c,d))) (a,c)
def auO:=(Yc N).L N 1026000 3 208 3 (tm [(1,.fG 209 [.P 0 3 0,.P 0 5 1]),(5,.I),(6,.I)] [[(3,.P 0 3 0)]] [(0,3,.box 0 [.sl iM .bG]),(0,5,.box 1 [.I])] 2 [] 2) [(.exit 0,tm [(5,.I)] [[(3,.P 0 3 0)]] [(0,3,.box 0 [.sl iM .bG])] 2 [] 1)]
theorem au8:lpT (auO N) (DX N):=lpI
def Yd:List fm×Int×Int->Option (Int×Int)|(a,c,b)=>(LP N (a,c)).bind λd=>cond (d !=0) (some (0,d)) ((cond (b<0) (some true) (some (decide (b>=c)))).bind λf=>cond f (some (0,2)) ((DX N N (0,(a.length:Int),a,b)).bind λe=>(idx e.2 (av (e.1-1))).bind λg=>some (g.2,0)))
def aoT:=(auO N).p (Yd N) (by delta Yd;rw[au8 N N];kernel_rfl)
def F93:cx Int->Option (Int×Int)|(d,e,b,g)=>(F92 N (d,e,b,g)).bind λa=>cond (a.2.2!=0) (some (0,a.2.2)) ((Yb N (d,e,b,a.1)).bind λf=>(idx b a.1).bind λh=>(idx b a.1).bind λi=>(Yd N (h.2.2.2.2.2.1,(i.2.2.2.2.1.length:Int),a.2.1)).bind λc=>(cond (c.1>4096) (some true) (some (decide ((av ((av (24+f.2))+(av c.1)))>4096)))).bind λj=>cond j (some (0,16)) (some ((av ((av (24+f.2))+(av c.1))),0)))
def G93:=((aoT N).on 93 ⟨[.agg (cT aZ),.U],[tmf [.I],tmf [.I]],0,[(0,7,56,.bool)],[],[],[]⟩).p (F93 N)
def abu:Int×tmI×Int×Int->Option (Int×Int)|(b,c,f,a)=>(OA N (b,c)).bind λd=>cond (d !=0) (some (0,d)) ((cond (a !=1) (some (a !=8)) (some false)).bind λg=>cond g (some (0,2)) ((OB N (b,c,f,a)).bind λe=>cond (!e.2) (some (0,16)) (some (e.1,0))))
def ahr:=((G93 N).on 211 ⟨[.agg (cT bF),.U,.I],[tmf [.I],tmf [.I]],0,[(0,5,21,.bool)],[],[],[]⟩).p (abu N)
def Ye:=(ahr N).on 133 (sg [.agg (cT bF),.U,.I] [tmf [.U],tmf [.I]])
def je(N:Nat):Nat->Int×Int×Int×Int×tmI->Option Int|0,_=>none|k+1,(b,c,a,e,d)=>cond (a>=0) ((idx d (av (b+a))).bind λf=>je N k (b,(DS .u64 (aR (c*256)) (aR f)),(av (a-1)),e,d)) c
def auP:=(Ye N).l N 8 (tm [(3,.P 0 3 0),(8,.I),(10,.U),(11,.I)] [] [(0,3,.box 0 (cT bF))] 1 [] 1) [(.exit 0,tmn [(10,.U)])]
theorem au9:lpT (auP N) (je N):=lpI
def OC:Int×tmI×Int×Int->Option (Int×Int)|(b,c,e,d)=>(abu N (b,c,e,d)).bind λa=>cond (a.2!=0) (some (0,a.2)) ((je N N (a.1,0,(av (d-1)),b,c)).bind λf=>some (f,0))
def aoY:=(auP N).p (OC N) (by delta OC;rw[au9 N N];kernel_rfl)
def Yf(N:Nat):Int×Int->Option Bool|(a,b)=>(cond (a<=3) (some ((b !=0)==(decide (a>=2)))) (some false)).bind λc=>c
def ao1:=((aoY N).on 134 ⟨[.U,.U],[tmf [.bool]],0,[(0,1,4,.bool)],[],[],[]⟩).p (Yf N)
def F94:Int×tmI×Int->Option (Int×Int×Int×Int)|(a,b,c)=>(F90 N (a,b)).bind λd=>cond (d !=0) (some (0,0,0,d)) ((Sz N (a,b,c,24)).bind λg=>(cond (!g.1) (some true) (some ((Int.tmod c 8)!=0))).bind λh=>cond h (some (0,0,0,16)) ((OC N (a,b,c,8)).bind λi=>(OC N (a,b,(aR (c+8)),8)).bind λe=>(OC N (a,b,(aR (c+16)),8)).bind λf=>(Yf N (e.1,f.1)).bind λj=>cond (!j) (some (0,0,0,12)) (some (i.1,e.1,f.1,0))))
def G94:=((ao1 N).on 94 ⟨[.agg (cT bF),.U],[tmf [.U],tmf [.U],tmf [.U],tmf [.I]],0,[(0,6,28,.bool)],[],[],[]⟩).p (F94 N)
def adS:=(G94 N).on 51 ⟨[.agg (cT bF),.agg (cT aZ),.U],[tmf [.D Bl],tmf [.I]],0,[(0,19,58,.bool),(0,25,96,.bool),(0,33,11,.I)],[],[(0,106,Bl)],[]⟩
def QR:Nat->Int×Int×Int×List Lw×Int×tmI×dJ->Option (List Lw×Int)|0,_=>none|k+1,(j,c,l,f,e,m,g,h,i)=>(F92 N (g,h,i,j)).bind λd=>cond (d.2.2!=0) (some ([],d.2.2)) ((F93 N (g,h,i,j)).bind λb=>(cond (b.2!=0) (some true) (some (decide ((aR b.1)>c)))).bind λn=>cond n (some ([],16)) ((F94 N (e,m,(aR (e+(aR (c-(aR b.1))))))).bind λa=>(cond (a.2.2.2!=0) (some true) (cond (!((a.1==0)==((aR (c-(aR b.1)))==0))) (some true) (cond (a.2.1==0) (cond (a.1!=0) (some ((Int.tmod a.1 256)==0)) (some false)) (some false)))).bind λo=>cond o (some ([],12)) (aL (room (f.length+1) 40) (cond (a.1!=0) ((cond (a.2.1==0) (some 1) (some 0)).bind λp=>QR k (a.1,(aR (c-(aR b.1))),p,(f++[((aR (e+(aR (c-(aR b.1))))),d.1,(av (d.2.1-l)),a.2.1,a.2.2.1)]),e,m,g,h,i)) (some ((f++[((aR (e+(aR (c-(aR b.1))))),d.1,(av (d.2.1-l)),a.2.1,a.2.2.1)]),0))))))
def axW:=(adS N).l N 12 (tm [(2,.U),(3,.P 0 3 0),(4,.P 0 4 1),(10,.U),(11,.I),(12,.A Bl 2)] [] [(0,3,.box 0 (cT bF)),(0,4,.box 1 (cT aZ))] 1 [2] 3) [(.ret,tmv [(6,.A Bl 0),(7,.I)] 0 1)]
theorem av0:lpT (axW N) (QR N):=lpI
def ZS:Int×tmI×cx Int->Option (List Lw×Int)|(b,a,c,d,e,i)=>(F90 N (b,a)).bind λf=>cond (f !=0) (some ([],f)) ((F91 N (c,d,e)).bind λg=>cond (g !=0) (some ([],g)) ((QR N N (i,(aR (a.length:Int)),0,[],b,a,c,d,e)).bind λh=>(h.1,h.2)))
def G51:=(axW N).p (ZS N) (by delta ZS;rw[av0 N N];kernel_rfl)
def adT:=(G51 N).on 24 ⟨[.agg (cT jJ)],[tmf [.I]],0,[(0,5,54,.bool),(0,8,76,.bool),(0,12,98,.bool),(0,23,146,.bool)],[],[],[]⟩
def pM:Nat->List Region×Int×Int×nV->Option (Int⊕Unit)|0,_=>none|k+1,(c,d,b,e,f,g,l,h,m,n,o,p,q,i,r)=>cond (b<d) ((idx c b).bind λa=>(idx i b).bind λj=>(cond (a.1!=(aR (16777216*(aR (av (b+1)))))) (some true) (cond ((aR (a.1+(aR (a.2.length:Int))))!=j.2.2.1) (some true) (cond ((a.2.length:Int)>h) (some true) (some ((Int.tmod (a.2.length:Int) 8)!=0))))).bind λs=>cond s (some (Sum.inl 8)) (cond (j.1==3) (pM k (c,d,(av (b+1)),e,f,g,l,h,m,n,o,p,q,i,r)) ((ZS N (a.1,a.2,e,f,g,j.2.1)).bind λt=>cond (t.2!=0) (some (Sum.inl 8)) (pM k (c,d,(av (b+1)),e,f,g,l,h,m,n,o,p,q,i,r))))) (some (Sum.inr ()))
def axY:=(adT N).l N 17 (tm [(1,.P 0 1 0),(100,.c (.sl bF .bG)),(101,.I),(102,.I)] [] [(0,1,.box 0 (cT jJ))] 1 [] 1) [tmr [(2,.I)],tmx]
theorem av1:lpT (axY N) (pM N):=lpI
def F24:nV->Option Int|(i,e,j,f,l,a,g,m,b,c,d,h)=>(F46 N (i,e,j)).bind λo=>cond (o !=0) (some 8) ((F30 N ([],f,l,a,g)).bind λp=>cond (p !=0) (some 8) (cond (h<0) (some 8) (cond (h>f) (some 8) ((F47 N (m,b,0)).bind λq=>(cond (q.2!=0) (some true) (some (decide ((b.length:Int)>a)))).bind λr=>cond r (some 8) (((F48 N d).bind λs=>cond (s !=0) (some true) (cond ((d.length:Int)>g) (some true) (some ((c.length:Int)!=(d.length:Int))))).bind λt=>cond t (some 8) ((F49 N (e,a)).bind λn=>(cond (n.2.2.2!=0) (some true) ((F50 N (b,n.2.1)).bind λu=>some (!u))).bind λv=>cond v (some 8) ((pM N N (c,(c.length:Int),0,i,e,j,f,l,a,g,m,b,c,d,h)).bind λw=>match w with|.inl x=>x|.inr y=>some 0)))))))
def G24:=(axY N).p (F24 N) (by delta F24;rw[av1 N N];kernel_rfl)
def adU:=(G24 N).on 25 ⟨[.c (.sl iu .bG)],[tmf [.D .I],tmf [.I]],0,[],[],[(0,25,.I)],[]⟩
def DZ(N:Nat):Nat->tmI×List dy×Int×Int->Option tmI|0,_=>none|k+1,(b,c,d,a)=>cond (a<d) ((idx c a).bind λe=>cond (e.1==1) (aL (room (b.length+1) 8) (DZ N k ((b++[a]),c,d,(av (a+1))))) (DZ N k (b,c,d,(av (a+1))))) b
def ax0:=(adU N).l N 8 (tmv [(5,.A .I 0),(13,.c (.sl iu .bG)),(14,.I),(15,.I)] 0 1) [(.exit 0,tmv [(5,.A .I 0)] 0 1)]
theorem av2:lpT (ax0 N) (DZ N):=lpI
def F25:List dy->Option (tmI×Int)|a=>(F48 N a).bind λb=>cond (b !=0) (some ([],b)) ((DZ N N ([],a,(a.length:Int),0)).bind λc=>some (c,0))
def G25:=(ax0 N).p (F25 N) (by delta F25;rw[av2 N N];kernel_rfl)
def F8:Vf Int->Option (Int×Int)|(e,f,g,h,i,j,l,m,n,o,c,p,b)=>(F24 N (e,f,g,h,i,j,l,m,n,o,c,p)).bind λd=>cond (d !=0) (some (0,d)) ((cond (b<0) (some true) (some (decide (b>65535)))).bind λq=>cond q (some (0,2)) ((F25 N c).bind λa=>cond ((a.1.length:Int)==0) (some (0,6)) (aL (!((a.1.length:Int)=0)) ((idx a.1 (Int.tmod b (a.1.length:Int))).bind λr=>some (r,0)))))
def G8:=((G25 N).on 8 ⟨[.agg (cT jJ),.I],[tmf [.I],tmf [.I]],0,[(0,5,19,.bool)],[],[],[]⟩).p (F8 N)
def F75(N:Nat):Cg->Option Bool|(a,b,c,d)=>(cond (a>=1) (cond (a<=5000) (cond (b>=0) (cond (b<=4096) (cond (c>=0) (cond (c<=16384) (cond (d>=1) (some (decide (d<=16))) (some false)) (some false)) (some false)) (some false)) (some false)) (some false)) (some false)).bind λe=>e
def G75:=((G8 N).on 75 ⟨[.agg (bn Cf)],[tmf [.bool]],0,[(0,1,2,.bool)],[],[],[]⟩).p (F75 N)
def adV:=(G75 N).on 39 ⟨[.agg (cT I6)],[tmf [.I]],0,[(0,1,13,.bool),(0,10,34,.bool)],[],[],[]⟩
def Vl(N:Nat):Nat->Int×Ch->Option (Int⊕Unit)|0,_=>none|k+1,(a,b,c,d,e,f)=>cond (a<b.length) (((idx b a).bind λg=>cond (g<0) (some true) ((idx b a).bind λh=>some (decide (h>65535)))).bind λi=>cond i (some (Sum.inl 8)) (Vl N k ((av (a+1)),b,c,d,e,f))) (some (Sum.inr ()))
def ax6:=(adV N).l N 6 (tm [(1,.P 0 1 0),(3,.I)] [] [(0,1,.box 0 (cT I6))] 1 [] 1) [tmr [(2,.I)],tmx]
theorem av3:lpT (ax6 N) (Vl N):=lpI
def F39:Ch->Option Int|(a,b,c,d,e)=>(cond ((a.length:Int)>2000) (some true) ((F75 N (b,c,d,e)).bind λf=>some (!f))).bind λg=>cond g (some 8) ((Vl N N (0,a,b,c,d,e)).bind λh=>match h with|.inl i=>i|.inr j=>some 0)
def G39:=(ax6 N).p (F39 N) (by delta F39;rw[av3 N N];kernel_rfl)
def F17:Cg->Option Bool|(a,b,c,d)=>(F39 N ([],a,b,c,d)).bind λe=>some (e==0)
def G17:=((G39 N).on 17 (sg [.agg (bn Cf)] [tmf [.bool]])).p (F17 N)
def F76(N:Nat):Int->Option Bool|a=>(cond ((aR (Int.tdiv a 256))>=1) (some (decide ((aR (Int.tdiv a 256))<=32))) (some false)).bind λb=>b
def G76:=((G17 N).on 76 ⟨[.U],[tmf [.bool]],0,[(0,1,2,.bool)],[],[],[]⟩).p (F76 N)
def F77(N:Nat):Int->Option Bool|a=>(cond (a==0) (some true) (cond (a>=65536) (some ((Int.tmod a 8)==0)) (some false))).bind λb=>b
def G77:=((G76 N).on 77 ⟨[.U],[tmf [.bool]],0,[(0,1,2,.bool)],[],[],[]⟩).p (F77 N)
def F40:Int×Lx->Option Bool|(d,b,e,f,g,h,c)=>(cond (b==1) (cond (c !=0) (some (Sum.inl false)) (some (Sum.inr (d,b,e,f,g,h,c)))) (cond (b==2) (some (Sum.inr (d,b,e,f,g,h,c))) (cond (b==3) ((cond (e==0) ((F21 N d).bind λi=>cond (f==i) (cond (g==0) (cond (h==0) (some (c==0)) (some false)) (some false)) (some false)) (some false)).bind λj=>some (Sum.inl j)) (some (Sum.inl false))))).bind λl=>match l with|.inl m=>m|.inr a=>((F76 N a.2.2.1).bind λn=>cond n ((F21 N a.1).bind λo=>cond (a.2.2.2.1>=(aR (o+24))) ((F21 N a.1).bind λp=>cond (a.2.2.2.1<=(aR (p+4096))) (cond ((Int.tmod a.2.2.2.1 8)==0) ((F77 N a.2.2.2.2.1).bind λq=>cond q ((F77 N a.2.2.2.2.2.1).bind λr=>some r) (some false)) (some false)) (some false)) (some false)) (some false)).bind λs=>s
def G40:=((G77 N).on 40 ⟨[.I,.agg (bn iu)],[tmf [.bool]],0,[(0,12,4,.bool),(0,14,4,.bool)],[],[],[(0,2,[tmr [(4,.Q)],(.normal,tm [(0,.I),(3,.P 0 3 0)] [] [(0,3,.box 0 (bn iu))] 1 [] 1)])]⟩).p (F40 N)
def adW:=(G40 N).on 19 ⟨[.c (.sl iu .bG)],[tmf [.I]],0,[(0,1,11,.bool)],[],[],[]⟩
def Rd:Nat->List dy×Int->Option (Int⊕Unit)|0,_=>none|k+1,(c,b)=>cond (b<c.length) ((idx c b).bind λa=>(F40 N (b,a.1,a.2.1,a.2.2.1,a.2.2.2.1,a.2.2.2.2.1,a.2.2.2.2.2)).bind λd=>cond (!d) (some (Sum.inl 8)) (Rd k (c,(av (b+1))))) (some (Sum.inr ()))
def ayk:=(adW N).l N 6 (tmn [(0,.c (.sl iu .bG)),(3,.I)]) [tmr [(2,.I)],tmx]
theorem av4:lpT (ayk N) (Rd N):=lpI
def F19:List dy->Option Int|a=>(cond ((a.length:Int)==0) (some true) (some (decide ((a.length:Int)>16)))).bind λb=>cond b (some 8) ((Rd N N (a,0)).bind λc=>match c with|.inl d=>d|.inr e=>some 0)
def G19:=(ayk N).p (F19 N) (by delta F19;rw[av4 N N];kernel_rfl)
def adX:=(G19 N).on 22 ⟨[.agg (cT bF)],[tmf [.bool]],0,[(0,9,2,.bool)],[],[],[]⟩
def D0(N:Nat):Nat->Int×Int×tmI->Option (Bool⊕Unit)|0,_=>none|k+1,(a,c,b)=>cond (a<=16) (cond (c==(aR (16777216*a))) ((cond ((Int.tmod (b.length:Int) 8)==0) (some (decide ((b.length:Int)<=4096))) (some false)).bind λd=>some (Sum.inl d)) (D0 N k ((aR (a+1)),c,b))) (some (Sum.inr ()))
def aym:=(adX N).l N 3 (tm [(1,.P 0 1 0),(3,.U)] [] [(0,1,.box 0 (cT bF))] 1 [] 1) [tmr [(2,.Q)],tmx]
theorem av5:lpT (aym N) (D0 N):=lpI
def F22:Int×tmI->Option Bool|(a,b)=>(D0 N N (1,a,b)).bind λc=>match c with|.inl d=>d|.inr e=>false
def G22:=(aym N).p (F22 N) (by delta F22;rw[av5 N N];kernel_rfl)
def F43(N:Nat):cx Int->Option (Int×Int×Bool)|(e,f,b,a)=>(cond (a<256) (some true) (some (decide (a>=(aR (av (256*(av ((b.length:Int)+1))))))))).bind λc=>cond c (some (0,0,false)) ((idx b (av ((av (aR (Int.tdiv a 256)))-1))).bind λd=>cond ((av (Int.tmod a 256))>=(d.2.2.2.2.1.length:Int)) (some (0,0,false)) (some ((av ((av (aR (Int.tdiv a 256)))-1)),(av (Int.tmod a 256)),true)))
def G43:=((G22 N).on 43 ⟨[.agg (cT aZ),.U],[tmf [.I],tmf [.I],tmf [.bool]],0,[(0,1,20,.bool)],[],[],[]⟩).p (F43 N)
def adY:=(G43 N).on 79 ⟨[.c (.sl iM .bG),.I],[tmf [.U]],0,[(0,9,5,.U)],[],[],[]⟩
def So(N:Nat):Nat->List fm×Int×Int×Int->Option Int|0,_=>none|k+1,(a,c,d,b)=>cond (b<a.length) ((idx a b).bind λe=>(cond (e.1<=c) ((idx a b).bind λf=>some f.2) (some d)).bind λg=>So N k (a,c,g,(av (b+1)))) d
def ayr:=(adY N).l N 4 (tmn [(0,.c (.sl iM .bG)),(1,.I),(5,.U),(6,.I)]) [(.exit 0,tmn [(5,.U)])]
theorem av6:lpT (ayr N) (So N):=lpI
def F79:List fm×Int->Option Int|(a,b)=>(So N N (a,b,0,0)).bind λc=>c
def G79:=(ayr N).p (F79 N) (by delta F79;rw[av6 N N];kernel_rfl)
def F44:cx (Int×Int)->Option Int|(d,e,a,b,f)=>(F58 N (d,e,a,b)).bind λg=>(idx a b).bind λh=>(F79 N (h.2.2.2.2.2.1,f)).bind λc=>cond (c>4096) (some 4097) (some (av (g.2+(av c))))
def G44:=((G79 N).on 44 (sg [.agg (cT aZ),.I,.I] [tmf [.I]])).p (F44 N)
def F80(N:Nat):Int×tmI×Int×Int->Option Bool|(b,d,a,c)=>(cond (c>20000) (some true) (some (decide (a>2199023255552)))).bind λe=>cond e false ((cond (a>=b) (some (decide ((aR (a+(aR c)))<=(aR (b+(aR (d.length:Int))))))) (some false)).bind λf=>f)
def G80:=((G44 N).on 80 ⟨[.agg (cT bF),.U,.I],[tmf [.bool]],0,[(0,1,12,.bool),(0,4,6,.bool)],[],[],[]⟩).p (F80 N)
def adZ:=(G80 N).on 81 (sg [.agg (cT bF),.U,.I] [tmf [.U]])
def iW(N:Nat):Nat->Int×Int×Int×Int×Int×Int×tmI->Option Int|0,_=>none|k+1,(b,c,d,e,a,f,g)=>cond (a<c) ((idx g (aR ((aR (b-f))+(aR a)))).bind λh=>iW N k (b,c,(aR (d+(aR (e*(aR h))))),(aR (e*256)),(av (a+1)),f,g)) d
def ayz:=(adZ N).l N 4 (tm [(1,.U),(2,.I),(3,.P 0 3 0),(7,.U),(8,.U),(9,.I)] [] [(0,3,.box 0 (cT bF))] 1 [] 1) [(.exit 0,tmn [(7,.U)])]
theorem av7:lpT (ayz N) (iW N):=lpI
def F81:Int×tmI×Int×Int->Option Int|(a,b,c,d)=>(iW N N (c,d,0,1,0,a,b)).bind λe=>e
def G81:=(ayz N).p (F81 N) (by delta F81;rw[av7 N N];kernel_rfl)
def F82(N:Nat):Int×Int->Option Bool|(a,b)=>(cond (a==0) (cond (b==0) (some true) (cond (a==2) (some (decide (b>0))) (cond (a==3) (some (decide (b>0))) (some false)))) (cond (a==1) (cond (b==0) (some true) (cond (a==2) (some (decide (b>0))) (cond (a==3) (some (decide (b>0))) (some false)))) (cond (a==2) (some (decide (b>0))) (cond (a==3) (some (decide (b>0))) (some false))))).bind λc=>c
def G82:=((G81 N).on 82 ⟨[.U,.U],[tmf [.bool]],0,[(0,1,4,.bool)],[],[],[]⟩).p (F82 N)
def F45:Int×tmI×Int->Option (Int×Int×Int×Int)|(a,b,c)=>(F22 N (a,b)).bind λf=>cond (!f) (some (0,0,0,8)) ((cond ((Int.tmod c 8)!=0) (some true) ((F80 N (a,b,c,24)).bind λg=>some (!g))).bind λh=>cond h (some (0,0,0,16)) ((F81 N (a,b,c,8)).bind λi=>(F81 N (a,b,(aR (c+8)),8)).bind λd=>(F81 N (a,b,(aR (c+16)),8)).bind λe=>(F82 N (d,e)).bind λj=>cond (!j) (some (0,0,0,12)) (some (i,d,e,0))))
def G45:=((G82 N).on 45 ⟨[.agg (cT bF),.U],[tmf [.U],tmf [.U],tmf [.U],tmf [.I]],0,[(0,4,22,.bool)],[],[],[]⟩).p (F45 N)
def ad0:=(G45 N).on 23 ⟨[.agg (cT bF),.agg (cT aZ),.U],[tmf [.D Bl],tmf [.I]],0,[(0,11,49,.bool),(0,16,95,.bool),(0,25,10,.I)],[],[(0,105,Bl)],[]⟩
def ST:Nat->Int×List Lw×Int×Int×Int×tmI×dJ->Option (List Lw×Int)|0,_=>none|k+1,(m,f,c,j,e,l,g,h,i)=>(F43 N (g,h,i,m)).bind λd=>cond (!d.2.2) (some ([],6)) ((F44 N (g,h,i,d.1,d.2.1)).bind λb=>(cond ((aR b)>4096) (some true) (some (decide ((aR b)>(aR (c-e)))))).bind λn=>cond n (some ([],16)) ((F45 N (e,l,(aR (c-(aR b))))).bind λa=>(cond (a.2.2.2!=0) (some true) (cond (a.1==0) (cond ((aR (c-(aR b)))!=e) (some true) (cond (a.1!=0) (cond ((aR (c-(aR b)))==e) (some true) (cond (a.2.1==0) (cond (a.1!=0) (some ((Int.tmod a.1 256)==0)) (some false)) (some false))) (cond (a.2.1==0) (cond (a.1!=0) (some ((Int.tmod a.1 256)==0)) (some false)) (some false)))) (cond (a.1!=0) (cond ((aR (c-(aR b)))==e) (some true) (cond (a.2.1==0) (cond (a.1!=0) (some ((Int.tmod a.1 256)==0)) (some false)) (some false))) (cond (a.2.1==0) (cond (a.1!=0) (some ((Int.tmod a.1 256)==0)) (some false)) (some false))))).bind λo=>cond o (some ([],12)) (aL (room (f.length+1) 40) (cond (a.1==0) (some ((f++[((aR (c-(aR b))),d.1,(av (d.2.1-j)),a.2.1,a.2.2.1)]),0)) ((cond (a.2.1==0) (some 1) (some 0)).bind λp=>ST k (a.1,(f++[((aR (c-(aR b))),d.1,(av (d.2.1-j)),a.2.1,a.2.2.1)]),(aR (c-(aR b))),p,e,l,g,h,i))))))
def ayH:=(ad0 N).l N 4 (tm [(2,.U),(3,.P 0 3 0),(4,.P 0 4 1),(8,.A Bl 2),(9,.U),(10,.I)] [] [(0,3,.box 0 (cT bF)),(0,4,.box 1 (cT aZ))] 1 [2] 3) [(.ret,tmv [(6,.A Bl 0),(7,.I)] 0 1)]
theorem av8:lpT (ayH N) (ST N):=lpI
def ZT:Int×tmI×cx Int->Option (List Lw×Int)|(a,b,d,e,f,g)=>(ST N N (g,[],(aR (a+(aR (b.length:Int)))),0,a,b,d,e,f)).bind λc=>(c.1,c.2)
def G23:=(ayH N).p (ZT N) (by delta ZT;rw[av8 N N];kernel_rfl)
def apf:=(G23 N).on 6 ⟨[.agg (cT jJ)],[tmf [.I]],0,[(0,1,33,.bool),(0,4,71,.bool),(0,18,156,.bool)],[],[],[]⟩
def sv:Nat->Int×nV->Option (Int⊕Unit)|0,_=>none|k+1,(b,d,e,f,j,g,l,m,n,o,c,h,p)=>cond (b<c.length) ((idx c b).bind λa=>(idx h b).bind λi=>((F21 N b).bind λq=>cond (a.1!=q) (some true) ((F22 N (a.1,a.2)).bind λr=>cond (!r) (some true) (cond ((aR (a.1+(aR (a.2.length:Int))))!=i.2.2.1) (some true) (some (decide ((a.2.length:Int)>g)))))).bind λs=>cond s (some (Sum.inl 8)) (cond (i.1==3) (sv k ((av (b+1)),d,e,f,j,g,l,m,n,o,c,h,p)) ((ZT N (a.1,a.2,d,e,f,i.2.1)).bind λt=>cond (t.2!=0) (some (Sum.inl 8)) (sv k ((av (b+1)),d,e,f,j,g,l,m,n,o,c,h,p))))) (some (Sum.inr ()))
def aAU:=(apf N).l N 13 (tm [(1,.P 0 1 0),(6,.I)] [] [(0,1,.box 0 (cT jJ))] 1 [] 1) [tmr [(2,.I)],tmx]
theorem av9:lpT (aAU N) (sv N):=lpI
def F6:nV->Option Int|(i,e,j,f,l,c,g,m,a,n,d,h)=>((F16 N (i,e,j)).bind λo=>cond (o !=0) (some true) ((F17 N (f,l,c,g)).bind λp=>cond (!p) (some true) (cond (h<0) (some true) (some (decide (h>f)))))).bind λq=>cond q (some 8) (((F18 N (m,a)).bind λr=>cond (!r) (some true) (cond ((a.length:Int)>c) (some true) ((F19 N d).bind λs=>cond (s !=0) (some true) (cond ((d.length:Int)>g) (some true) (some ((n.length:Int)!=(d.length:Int))))))).bind λt=>cond t (some 8) ((F20 N (e,c)).bind λb=>cond (b.2.2.2!=0) (some 8) (cond ((b.2.1.length:Int)>(a.length:Int)) (some 8) (aL (decide (0<=(b.2.1.length:Int))) (aL (decide ((Int.toNat (b.2.1.length:Int))<=a.length)) (cond (!((b.2.1.map λ(n:Int)=>UInt8.ofNat n.toNat)==((a.take (Int.toNat (b.2.1.length:Int))).map λ(n:Int)=>UInt8.ofNat n.toNat))) (some 8) ((sv N N (0,i,e,j,f,l,c,g,m,a,n,d,h)).bind λu=>match u with|.inl v=>v|.inr w=>some 0)))))))
def G6:=(aAU N).p (F6 N) (by delta F6;rw[av9 N N];kernel_rfl)
def ad1:=(G6 N).on 37 (sg [.c (.sl bM .bG)] [tmf [.bool]])
def sw(N:Nat):Nat->List aB×Int×Int->Option (Bool⊕(List aB×Int))|0,_=>none|k+1,(a,b,c)=>(idx a b).bind λd=>cond (c<d.2.2.2.length) ((idx a b).bind λe=>(idx e.2.2.2 c).bind λf=>cond ((f.1.length:Int)>100) (some (Sum.inl true)) (sw N k (a,b,(av (c+1))))) (some (Sum.inr (a,b)))
def ad2:=(ad1 N).l N 15 (tmn [(0,.c (.sl bM .bG)),(3,.I),(4,.I)]) [tmr [(2,.Q)],(.exit 2,tmn [(0,.c (.sl bM .bG)),(3,.I)])]
theorem aw1:lpT (ad2 N) (sw N):=lpI
def D1:Nat->List aB×Int->Option (Bool⊕Unit)|0,_=>none|k+1,(a,b)=>cond (b<a.length) ((idx a b).bind λd=>cond ((d.2.2.2.length:Int)>20) (some (Sum.inl true)) ((sw N N (a,b,0)).bind λe=>match e with|.inl f=>some (Sum.inl f)|.inr c=>D1 k (c.1,(av (c.2+1))))) (some (Sum.inr ()))
def ayJ:=(ad2 N).l N 6 (tmn [(0,.c (.sl bM .bG)),(3,.I)]) [tmr [(2,.Q)],tmx]
theorem aw2:lpT (ayJ N) (D1 N):=lpJ λk=>funext λ⟨a,b⟩=>by rw[D1,aw1 N N];kernel_rfl
def F37:List aB->Option Bool|a=>cond ((a.length:Int)>40) true ((D1 N N (a,0)).bind λb=>match b with|.inl c=>c|.inr d=>false)
def G37:=(ayJ N).p (F37 N) (by delta F37;rw[aw2 N N];kernel_rfl)
def ad3:=(G37 N).on 15 ⟨[.agg (cT aZ)],[tmf [.bool]],0,[(0,1,22,.bool),(0,23,85,.bool)],[],[],[]⟩
def UV(N:Nat):Nat->Int×dJ->Option (Bool⊕dJ)|0,_=>none|k+1,(b,c,a,d)=>cond (b<a.length) ((idx a b).bind λe=>cond ((e.length:Int)>100) (some (Sum.inl true)) (UV N k ((av (b+1)),c,a,d))) (some (Sum.inr (c,a,d)))
def ad4:=(ad3 N).l N 6 (tm [(1,.P 0 1 0),(3,.I)] [] [(0,1,.box 0 (cT aZ))] 1 [] 1) [tmr [(2,.Q)],(.exit 0,tm [(1,.P 0 1 0)] [] [(0,1,.box 0 (cT aZ))] 1 [] 1)]
theorem aw3:lpT (ad4 N) (UV N):=lpI
def s5(N:Nat):Nat->Int×Int×Int×dP->Option (Bool⊕(Int×Int×dJ))|0,_=>none|k+1,(c,d,a,e,f,g,h,i,j,b,l,m,n)=>cond (a<b.length) ((idx b a).bind λo=>cond ((o.1.length:Int)>100) (some (Sum.inl true)) (s5 N k (c,d,(av (a+1)),e,f,g,h,i,j,b,l,m,n))) (some (Sum.inr (c,d,e,f,g)))
def ad5:=(ad4 N).l N 28 (tm [(1,.P 0 1 0),(4,.I),(5,.I),(6,.P 0 6 1),(7,.I)] [] [(0,1,.box 0 (cT aZ)),(0,6,.box 1 (bn ec))] 1 [] 2) [tmr [(2,.Q)],(.exit 4,tm [(1,.P 0 1 0),(4,.I),(5,.I)] [] [(0,1,.box 0 (cT aZ))] 1 [] 1)]
theorem aw4:lpT (ad5 N) (s5 N):=lpI
def D2:Nat->Int×Int×dJ->Option (Bool⊕Unit)|0,_=>none|k+1,(e,c,f,g,d)=>cond (c<d.length) ((idx d c).bind λa=>(cond ((a.1.length:Int)>100) (some true) (cond ((a.2.2.2.1.length:Int)>20) (some true) (cond ((a.2.2.2.2.1.length:Int)>210) (some true) (cond ((a.2.2.2.2.2.1.length:Int)>210) (some true) (cond ((a.2.2.2.2.2.2.length:Int)>210) (some true) (some (decide ((av (e+(a.2.2.2.2.1.length:Int)))>1000)))))))).bind λh=>cond h (some (Sum.inl true)) ((s5 N N ((av (e+(a.2.2.2.2.1.length:Int))),c,0,f,g,d,a.1,a.2.1,a.2.2.1,a.2.2.2.1,a.2.2.2.2.1,a.2.2.2.2.2.1,a.2.2.2.2.2.2)).bind λi=>match i with|.inl j=>some (Sum.inl j)|.inr b=>D2 k (b.1,(av (b.2.1+1)),b.2.2.1,b.2.2.2.1,b.2.2.2.2))) (some (Sum.inr ()))
def ayL:=(ad5 N).l N 17 (tm [(1,.P 0 1 0),(4,.I),(5,.I)] [] [(0,1,.box 0 (cT aZ))] 1 [] 1) [tmr [(2,.Q)],(.exit 2,tmz)]
theorem aw5:lpT (ayL N) (D2 N):=lpJ λk=>funext λ⟨a,b,c,d,e⟩=>by rw[D2,aw4 N N];kernel_rfl
def F15:dJ->Option Bool|(b,c,d)=>((F37 N b).bind λe=>cond e (some true) (cond ((c.length:Int)>40) (some true) (some (decide ((d.length:Int)>40))))).bind λf=>cond f true ((UV N N (0,b,c,d)).bind λg=>match g with|.inl h=>h|.inr a=>(D2 N N (0,0,a.1,a.2.1,a.2.2)).bind λi=>match i with|.inl j=>j|.inr l=>false)
def G15:=(ayL N).p (F15 N) (by delta F15;rw[aw3 N N,aw5 N N];kernel_rfl)
def apg:=(G15 N).on 5 ⟨[.agg (cT jJ)],[tmf [.bool]],0,[(0,1,25,.bool)],[],[],[]⟩
def Vk(N:Nat):Nat->Int×nV->Option (Bool⊕Unit)|0,_=>none|k+1,(a,c,d,e,f,g,h,i,j,l,b,m,n)=>cond (a<b.length) ((idx b a).bind λo=>cond ((o.2.length:Int)>4200) (some (Sum.inl true)) (Vk N k ((av (a+1)),c,d,e,f,g,h,i,j,l,b,m,n))) (some (Sum.inr ()))
def aAV:=(apg N).l N 6 (tm [(1,.P 0 1 0),(3,.I)] [] [(0,1,.box 0 (cT jJ))] 1 [] 1) [tmr [(2,.Q)],tmx]
theorem aw6:lpT (aAV N) (Vk N):=lpI
def F5:nV->Option Bool|(a,b,c,g,h,i,j,l,d,e,f,m)=>((F15 N (a,b,c)).bind λn=>cond n (some true) (cond ((d.length:Int)>4200) (some true) (cond ((e.length:Int)>20) (some true) (some (decide ((f.length:Int)>20)))))).bind λo=>cond o true ((Vk N N (0,a,b,c,g,h,i,j,l,d,e,f,m)).bind λp=>match p with|.inl q=>q|.inr r=>false)
def G5:=(aAV N).p (F5 N) (by delta F5;rw[aw6 N N];kernel_rfl)
def aph:=(G5 N).on 7 ⟨[.c (.sl iu .bG)],[tmf [.D .I]],0,[],[],[(0,19,.I)],[]⟩
def D3(N:Nat):Nat->List dy×tmI×Int->Option tmI|0,_=>none|k+1,(b,c,a)=>cond (a<b.length) ((idx b a).bind λd=>cond (d.1==1) (aL (room (c.length+1) 8) (D3 N k (b,(c++[a]),(av (a+1))))) (D3 N k (b,c,(av (a+1))))) c
def aAW:=(aph N).l N 4 (tmv [(0,.c (.sl iu .bG)),(3,.A .I 0),(4,.I)] 0 1) [(.exit 0,tmv [(3,.A .I 0)] 0 1)]
theorem aw7:lpT (aAW N) (D3 N):=lpI
def F7:List dy->Option tmI|a=>(D3 N N (a,[],0)).bind λb=>b
def G7:=(aAW N).p (F7 N) (by delta F7;rw[aw7 N N];kernel_rfl)
def F4(N:Nat)(x:Unit):Option Bool:=Od.F x
theorem api:F4 N ()=some true:=rfl
def G4:ah:=(G7 N).E.pG 4 Od
def Yg(f:Nat)(l:List AV):Option AV:=match Nat.beq f 4,l with|true,[]=>some (.d (.sc (.bool true)))|_,_=>none
def Jb:Go.bK.Call:=λf l _ _ nv=>(Yg f l).map λa=>(a,[.lf],.lf,nv)
theorem K4:az (bP Jb) (G4 N):=((G7 N).ok Jb).pG (R3 (n:=1) (by kernel_rfl))
def s3:bV:=⟨[.agg (bn jJ)],[tmf [.bool]],0,[(0,2,19,.bool),(0,9,32,.bool),(0,13,53,.bool)],[],[],[]⟩
def apj:ah:=(G4 N).on s3
def Wc:bw:=tm [(1,.P 0 1 0),(3,.Q),(4,.D .I),(5,.I)] [] [(0,1,.box 0 (bn jJ))] 1 [] 1
def Wn:bt:=[tmr [(2,.Q)],(.exit 0,tmn [(3,.Q)])]
def D4:Nat->Bool×tmI×Int×nV->Option (Bool⊕Bool)|0,_=>none|k+1,(c,a,b,d,e,f,g,h,i,j,l,m,n,o,p)=>(cond (b<=a.length) (some (decide ((a.length:Int)>0))) (some false)).bind λr=>cond r ((F8 N (d,e,f,g,h,i,j,l,m,n,o,p,b)).bind λq=>(cond (q.2!=0) (some true) (aL (!((a.length:Int)=0)) ((idx a (Int.tmod b (a.length:Int))).bind λs=>some (q.1!=s)))).bind λt=>cond t (some (Sum.inl false)) (D4 k (c,a,(av (b+1)),d,e,f,g,h,i,j,l,m,n,o,p))) (some (Sum.inr c))
theorem Wq:∀k,D4 N k=tmq (apj N) 8 3 Wc Wn k|0=>rfl|k+1=>funext λ⟨a,b,c,d,e,f,g,h,i,j,l,m,n,o,p⟩=>by rw[D4,Wq k];kernel_rfl
def aAX:ah:=(apj N).aa N 0 8 Wc Wn
def F3:nV->Option Bool|(b,c,d,e,f,g,h,i,j,l,a,m)=>(F4 N ()).bind λn=>((F5 N (b,c,d,e,f,g,h,i,j,l,a,m)).bind λo=>cond o (some true) ((F6 N (b,c,d,e,f,g,h,i,j,l,a,m)).bind λp=>cond (p !=0) (some true) (some (!n)))).bind λq=>cond q n ((F7 N a).bind λr=>(D4 N N (n,r,0,b,c,d,e,f,g,h,i,j,l,a,m)).bind λs=>match s with|.inl t=>t|.inr u=>u)
def G3:ah:=(G4 N).put 3 s3 (F3 N)
theorem K3:az (bP Jb) (G3 N):=(K4 N).put (((K4 N).on s3).aa N 0 8 Wc Wn) _ _ _ (funext λ⟨a,b,c,d,e,f,g,h,i,j,l,m⟩=>by rw[F3,Wq N N];kernel_rfl)
end
end Go.Proofs.YtclkonemhghbkaaGreat
namespace Go.Sym
open Go Go.bK
def aO{n:Int}(h:-9223372036854775808<=n/\n<=9223372036854775807):av n=n:=IntWalk.i64_in n h
def aY{n:Int}(h:0<=n/\n<=18446744073709551615):aR n=n:=IntWalk.u64_in n h
def Ci{a b:Int}(h:0<=a):Int.tdiv a b=a/b:=Int.tdiv_eq_ediv_of_nonneg h
def oI{a b:Int}(h:0<=a):Int.tmod a b=a%b:=Int.tmod_eq_emod_of_nonneg h
def sB{α:Type}(pre:List α)(x:α)(r:List α):idx (pre++x::r) (pre.length:Int)=some x:=by simp[idx]
def nY{α:Type}{l pre:List α}{x:α}{r:List α}{i:Int}(hl:l=pre++x::r)(hi:i=(pre.length:Int)):idx l i=some x:=by grind[idx]
def pN{α:Type}{l:List α}{i:Int}{x:α}(h0:0<=i)(h:l[i.toNat]?=some x):idx l i=some x:=by simp[idx,h0,h]
def Qj{n b:Nat}(h1:n<=9223372036854775807)(h2:n*b<=140737488355328):room n b=true:=by simp[room,eU,jz,h1,h2]
def aj{α:Type}(k:Option α):aL true k=k:=rfl
def j0{α:Type}{b:Bool}{k r:Option α}(h1:b=true)(h2:k=r):aL b k=r:=by rw[h1];exact h2
def kK{β:Type}{n:Nat}{Lf:Nat->Int->Option β}{g:Nat->Option β}(h0:∀k,Lf (k+1) (n:Int)=g n)(hs:∀k i,i<n->Lf k ((i+1:Nat):Int)=g (i+1)->Lf (k+1) (i:Int)=g i):∀k i,i<=n->n-i<k->Lf k (i:Int)=g i
 |0,_,_,h=>by omega|k+1,i,hi,hk=>by
  by_cases he:i=n;.grind
  .exact hs k i (by omega) (kK h0 hs k (i+1) (by omega) (by omega))
def abv{σ β:Type}{n:Nat}{I:Nat->σ->Prop}{Lf:Nat->Int->σ->Option β}{g:Nat->σ->Option β}(h0:∀k s,I n s->Lf (k+1) (n:Int) s=g n s)(hs:∀k i s,i<n->I i s->(∀s',I (i+1) s'->Lf k ((i+1:Nat):Int) s'=g (i+1) s')->Lf (k+1) (i:Int) s=g i s):∀k i s,I i s->i<=n->n-i<k->Lf k (i:Int) s=g i s
 |0,_,_,_,_,h=>by omega|k+1,i,s,hI,hi,hk=>by
  by_cases he:i=n;.grind
  .exact hs k i s (by omega) hI λs' hI'=>abv h0 hs k (i+1) s' hI' (by omega) (by omega)
def vw{α β:Type}[DecidableEq α]{l m:List α}[Decidable (l=m)]{a b:β}{Lf:Nat->Int->Option β}(hl:l.length=m.length)(h0:∀k,Lf (k+1) (l.length:Int)=some a)(hs:∀(k i:Nat)x y,x∈l->y∈m->l[i]?=some x->m[i]?=some y->Lf (k+1) (i:Int)=if x=y then Lf k ((i+1:Nat):Int)else some b):∀k,l.length<k->Lf k 0=some (if l=m then a else b):=by
 classical intro k hk;have:=kK (n:=l.length) (Lf:=Lf) (g:=λi=>some (if l.drop i=m.drop i then a else b)) (λk=>by rw[h0 k];simp[hl]) (λk i hi ih=>by
  have e1:=aw hi;have e2:=aw (l:=m) (i:=i) (by omega);rw[hs k i _ _ (i7 hi) (i7 _) e1 e2,ih,ib hi,ib (l:=m) (i:=i) (by omega)];simp only[List.cons.injEq];by_cases h:l[i]=m[i]'(by omega);.simp only[h,i5,true_and]
  .simp only[h,ns,false_and]) k 0 (by omega) (by omega);grind
def LX{α β:Type}{l:List α}{a b:β}{p:α->Bool}{Lf:Nat->Int->Option β}(h0:∀k,Lf (k+1) (l.length:Int)=some a)(hs:∀(k i:Nat)x,x∈l->l[i]?=some x->Lf (k+1) (i:Int)=if p x then some b else Lf k ((i+1:Nat):Int)):∀k,l.length<k->Lf k 0=some (if l.any p then b else a):=by
 intro k hk;have:=kK (n:=l.length) (Lf:=Lf) (g:=λi=>some (if(l.drop i).any p then b else a)) (λk=>by rw[h0 k];simp) (λk i hi ih=>by
  have e1:=aw hi;rw[hs k i _ (i7 hi) e1,ih,ib hi];rw[List.any_cons];by_cases h:p l[i]=true;.rw[h];rfl
  .rw[qr]at h;rw[h];rfl) k 0 (by omega) (by omega);grind
def vz{α β:Type}{l:List α}{a b:β}{P:α->Prop}{n:Nat}{Lf:Nat->Int->Option β}(hn:n<=l.length)(h0:∀k,Lf (k+1) (n:Int)=some a)(hs:∀(k i:Nat)x,i<n->x∈l->l[i]?=some x->Lf (k+1) (i:Int)=some b\/(P x/\Lf (k+1) (i:Int)=Lf k ((i+1:Nat):Int))):∀k,n<k->Lf k 0=some b\/(Lf k 0=some a/\∀(i:Nat)x,i<n->l[i]?=some x->P x):=by
 have key:∀k i,i<=n->n-i<k->Lf k (i:Int)=some b\/(Lf k (i:Int)=some a/\∀(j:Nat)x,i<=j->j<n->l[j]?=some x->P x):=by intro k;induction k with|zero=>omega|succ k ih=>
      intro i hi hk;by_cases he:i=n;.subst he;exact .inr ⟨h0 k,λj x h1 h2=>by omega⟩
      . have hl:i<l.length:=by omega
        have e1:=aw hl;rcases hs k i _ (by omega) (i7 hl) e1 with h|⟨hp,h⟩;.exact .inl h
        . rw[h];rcases ih (i+1) (by omega) (by omega)with h|⟨h,h2⟩;.exact .inl h
          . refine .inr ⟨h,λj x h3 h4 h5=>?_⟩;by_cases hj:j=i;.subst hj;simp_all
            .exact h2 j x (by omega) h4 h5
 intro k hk;rcases key k 0 (by omega) (by omega)with h|⟨h,h2⟩<;>grind
def aG{α:Type}{l:List α}{i:Nat}{x:α}(h:l[i]?=some x):idx l (i:Int)=some x:=pN (by omega) (by grind)
def cC{n i:Nat}(h:i<n):gB (i:Int) n=true:=by simp[gB,h]
def ai{i:Nat}(h:i<9223372036854775807):av ((i:Int)+1)=((i+1:Nat):Int):=by rw[aO (by omega)];rfl
def aM{i n:Nat}(h:i<n):decide ((i:Int)<(n:Int))=true:=bm (by omega)
def aN(n:Nat):decide ((n:Int)<(n:Int))=false:=bo (by omega)
def LY{α:Type}{l:List α}{i:Nat}{x:α}(h:l[i]?=some x):l.set i x=l:=by obtain⟨h1,h2⟩:=cb.1 h;rw[<-h2];exact List.set_getElem_self h1
def aE{α:Type}{l:List α}{i:Nat}{x:α}(h:l[i]?=some x):i<l.length:=(cb.1 h).1
def aW{α:Type}{l:List α}{i:Nat}{x:α}(h:l[i]?=some x):x∈l:=f2 h
def take_succ{α:Type}{l:List α}{i:Nat}{x:α}(h:l[i]?=some x):l.take (i+1)=l.take i++[x]:=by obtain⟨h1,h2⟩:=cb.1 h;rw[List.take_succ_eq_append_getElem h1,h2]
def aq{n b:Nat}(h1:n<=10000000)(h2:b<=1000):room n b=true:=by refine Qj (by omega) ?_;have:=Nat.mul_le_mul h1 h2;omega
def oP{α:Type}{l:List α}{i:Nat}(h:i<l.length):∃x,l[i]?=some x:=⟨_,aw h⟩
open Classical in theorem gP{β:Type}{n:Nat}{a b:β}{q:Nat->Bool}{Lf:Nat->Int->Option β}(h0:∀k,(∀j,j<n->q j=false)->Lf (k+1) (n:Int)=some a)(hs:∀(k i:Nat),i<n->(∀j,j<i->q j=false)->Lf (k+1) (i:Int)=if q i=true then some b else Lf k ((i+1:Nat):Int)){k:Nat}(hk:n<k):Lf k 0=some (if∃i,i<n/\q i=true then b else a):=by
 have key:∀k i,i<=n->n-i<k->(∀j,j<i->q j=false)->Lf k (i:Int)=some (if∃j,j<n/\q j=true then b else a):=by intro k;induction k with|zero=>omega|succ k ih=>
      intro i hi hk hq;by_cases he:i=n;.subst he;rw[h0 k hq,be (λ⟨j,h1,h2⟩=>by rw[hq j h1]at h2;cases h2)]
      . rw[hs k i (by omega) hq];by_cases hb:q i=true;.rw[ba hb,ba ⟨i,by omega,hb⟩]
        . rw[be hb];refine ih (i+1) (by omega) (by omega) λj hj=>?_;by_cases hji:j=i;.subst hji;simpa using hb
          .exact hq j (by omega)
 exact key k 0 (by omega) (by omega) λj hj=>by omega
open Classical in theorem gu{α β:Type}{l:List α}{a b:β}{p:α->Bool}{Lf:Nat->Int->Option β}(h0:∀k,(∀x,x∈l->p x=false)->Lf (k+1) (l.length:Int)=some a)(hs:∀(k i:Nat)x,l[i]?=some x->x∈l->Lf (k+1) (i:Int)=if p x=true then some b else Lf k ((i+1:Nat):Int)){k:Nat}(hk:l.length<k):Lf k 0=some (if∃x,x∈l/\p x=true then b else a):=by
 rw[gP (n:=l.length) (a:=a) (b:=b) (q:=λi=>((l[i]?).map p).getD false) (Lf:=Lf) (λk hq=>h0 k λx hx=>?_) (λk i hi _=>?_) hk];.have hiff:(∃i,i<l.length/\((l[i]?).map p).getD false=true)↔∃x,x∈l/\p x=true:=⟨λ⟨i,h1,h2⟩=>by obtain⟨x,hx⟩:=oP h1;rw[hx]at h2;exact⟨x,aW hx,h2⟩,λ⟨x,h1,h2⟩=>by obtain⟨i,h3,rfl⟩:=io.1 h1;exact⟨i,h3,by rw[aw h3];exact h2⟩⟩;simp_all
 .obtain⟨i,h3,rfl⟩:=io.1 hx<;>grind
 grind
def iA{α β γ:Type}{l:List α}{Lf:Nat->Int->List γ->Option β}{enc:α->List γ}{g:List γ->β}{B m:Nat}(h0:∀k s,Lf (k+1) (l.length:Int) s=some (g s))(hs:∀k(i:Nat)x s,l[i]?=some x->x∈l->s.length<=B->Lf (k+1) (i:Int) s=Lf k ((i+1:Nat):Int) (s++enc x))(hm:∀x,x∈l->(enc x).length<=m){k:Nat}{s:List γ}(hk:l.length<k)(hB:s.length+l.length*m<=B):Lf k 0 s=some (g (s++l.flatMap enc)):=by
 have key:∀k(i:Nat)s,i<=l.length->l.length-i<k->s.length+(l.length-i)*m<=B->Lf k (i:Int) s=some (g (s++(l.drop i).flatMap enc)):=by intro k;induction k with|zero=>omega|succ k ih=>
      intro i s hi hk hB;by_cases he:i=l.length;.grind
      . have hl:i<l.length:=by omega
        have e1:=aw hl;have TN:=hm _ (i7 hl);have e3:(l.length-i)*m=m+(l.length-(i+1))*m:=by rw[show l.length-i=1+(l.length-(i+1))by omega,d9,Eq]
        rw[hs k i _ s e1 (i7 hl) (by omega),ih (i+1) _ (by omega) (by omega) (by rw[bb];omega)];rw[ib hl,eb,bi]
 have:=key k 0 s (by omega) (by omega) (by rw[yn];exact hB)<;>grind
def iH{α γ:Type}{l:List α}{enc:α->List γ}{m:Nat}(h:∀x,x∈l->(enc x).length<=m):(l.flatMap enc).length<=l.length*m:=by induction l with|nil=>simp|cons x r ih=>rw[eb,bb,fd,d9]<;>grind
def gv{α σ β:Type}{l:List α}{Lf:Nat->Int->σ->Option β}{Inv:Nat->σ->Prop}{g:σ->β}(h0:∀k s,Inv l.length s->Lf (k+1) (l.length:Int) s=some (g s))(hs:∀k(i:Nat)x s,l[i]?=some x->Inv i s->∃s',Inv (i+1) s'/\Lf (k+1) (i:Int) s=Lf k ((i+1:Nat):Int) s'){k:Nat}{s:σ}(h:Inv 0 s)(hk:l.length<k):∃s',Inv l.length s'/\Lf k 0 s=some (g s'):=by
 have key:∀k(i:Nat)s,i<=l.length->l.length-i<k->Inv i s->∃s',Inv l.length s'/\Lf k (i:Int) s=some (g s'):=by intro k;induction k with|zero=>omega|succ k ih=>
  intro i s hi hk hI;by_cases he:i=l.length;.grind
  .obtain⟨s',h1,h2⟩:=hs k i _ s (aw (by omega)) hI<;>grind
 exact key k 0 s (by omega) (by omega) h
def dK{α σ β:Type}{l:List α}{Lf:Nat->Int->σ->Option β}{Inv:Nat->σ->Prop}{Out:β->Prop}{g:σ->β}(h0:∀k s,Inv l.length s->Lf (k+1) (l.length:Int) s=some (g s))(hs:∀k(i:Nat)x s,l[i]?=some x->Inv i s->(∃r,Out r/\Lf (k+1) (i:Int) s=some r)\/∃s',Inv (i+1) s'/\Lf (k+1) (i:Int) s=Lf k ((i+1:Nat):Int) s'){k:Nat}{s:σ}(h:Inv 0 s)(hk:l.length<k):(∃r,Out r/\Lf k 0 s=some r)\/∃s',Inv l.length s'/\Lf k 0 s=some (g s'):=by
 have key:∀k(i:Nat)s,i<=l.length->l.length-i<k->Inv i s->(∃r,Out r/\Lf k (i:Int) s=some r)\/∃s',Inv l.length s'/\Lf k (i:Int) s=some (g s'):=by intro k;induction k with|zero=>omega|succ k ih=>
  intro i s hi hk hI;by_cases he:i=l.length;.grind
  .rcases hs k i _ s (aw (by omega)) hI with h|⟨s',h1,h2⟩<;>grind
 exact key k 0 s (by omega) (by omega) h
def yF:Nat->Nat->List Int|0,n=>[(n:Int)]|k+1,n=>if n<128then[(n:Int)]else((n%128+128:Nat):Int)::yF k (n/128)
def V(n:Nat):List Int:=yF 9 n
def LZ:∀k n,1<=(yF k n).length/\(yF k n).length<=k+1|0,n=>by simp[yF]|k+1,n=>by have:=LZ k (n/128)<;>grind[yF]
def cZ(n:Nat):1<=(V n).length/\(V n).length<=10:=LZ 9 n
def sC(n:Nat):ZR (n:Int)=((n%256:Nat):Int):=by show IntKind.u8.wrap (n:Int)=_;rw[IntKind.wrap_u8];omega
def nZ{n:Nat}(h:n<18446744073709551616):aR (n:Int)=(n:Int):=aY (by omega)
def Yh:∀a:Nat,a<256->DS .u8 ((a:Nat):Int) (128:Int)=((a%128+128:Nat):Int):=by decide+kernel
def yG(a b:Nat):Int.fdiv (a:Int) (b:Int)=((a/b:Nat):Int):=by grind
def L3(a b:Nat):Int.tdiv (a:Int) (b:Int)=((a/b:Nat):Int):=by rfl
def L4(a b:Nat):Int.tmod (a:Int) (b:Int)=((a%b:Nat):Int):=by rfl
def JF(n:Int):Nat:=if 0<=n then(2*n).toNat else(-2*n-1).toNat
def OD{n:Int}(h:-9223372036854775808<=n/\n<=9223372036854775807):JF n<18446744073709551616:=by grind[JF]
def Qk{α:Type}{p q:Prop}{ip:Decidable p}{iq:Decidable q}{a b:α}(h:p↔q):@ite α p ip a b=@ite α q iq a b:=by grind
def aU{p:Prop}{i:Decidable p}(h:p):@decide p i=true:=bm h
def aQ{p:Prop}{i:Decidable p}(h:¬p):@decide p i=false:=bo h
def Yi{a b:Nat}(h:a+b<=9223372036854775807):av ((a:Int)+(b:Int))=((a+b:Nat):Int):=by rw[aO (by omega)];rfl
def de(s:List UInt8):(bN s).length=s.length:=by simp[bN]
def abw{α:Type}{l:List α}{i:Int}(h0:0<=i)(h:i<l.length):∃x,idx l i=some x/\x∈l/\l[i.toNat]?=some x:=by simp_all[idx]
end Go.Sym
namespace Go.Proofs.YtclkonemhghbkaaGreat
open Go Go.bK Go.Sym
def dS(a b:Bool):(bif a then some true else some b:Option Bool)=some (a||b):=by grind
def gC(a b:Bool):(bif a then some b else some false:Option Bool)=some (a&&b):=by grind
def zR{α:Type}(c:Bool)(a b:α):(bif c then some a else some b)=some (bif c then a else b):=by grind
def abx{α:Type}(o:Option α):(Option.bind o λx=>some x)=o:=by grind
def au{α:Type}(a b:α):(bif true then a else b)=a:=rfl
def af{α:Type}(a b:α):(bif false then a else b)=b:=rfl
noncomputable def U(c:UInt8):Int×Int×Bool×Bool:=if c=119then(0,15,false,true)else if c=114then(0,15,true,false)else if c=110then(-9223372036854775808,9223372036854775807,false,false)else if c=116then(0,31,false,false)else if c=99then(0,31,false,false)else if c=98then(0,1,false,false)else if c=102then(0,7,false,false)else if c=105then(0,199,false,false)else if c=103then(-1,15,false,true)else if c=101then(-1,15,true,false)else(0,0,false,false)
noncomputable def mh(c:UInt8):Bool:=[119,114,110,116,99,98,102,105,103,101,45].contains c
noncomputable def ahv:List (UInt8×UInt8×UInt8):=[(119,110,45),(119,116,45),(119,98,45),(119,45,45),(119,114,45),(119,114,114),(119,114,114),(119,114,114),(119,114,114),(119,114,114),(119,114,114),(119,114,45),(119,114,102),(114,102,114),(119,45,45),(119,114,45),(114,114,45),(119,114,45),(119,114,114),(114,114,114),(119,114,45),(105,45,45),(114,105,45),(114,45,45),(103,99,45),(99,45,45),(99,45,45),(114,45,45),(119,119,45),(45,45,45),(45,45,45),(114,45,45),(119,114,45),(101,45,45)]
noncomputable def yH(op:Int):Option (UInt8×UInt8×UInt8):=if 1<=op/\op<=34then ahv[(op-1).toNat]?else none
def Hl(p0:Int):(1<=p0/\p0<=34)\/∀k:Int,1<=k->k<=34->(p0==k)=false:=by grind
def L5{N:Nat}{p0:Int}(ne:∀k:Int,1<=k->k<=34->(p0==k)=false):I7 N p0=some []:=by simp[I7.eq_1,ne 1 (by decide) (by decide),ne 2 (by decide) (by decide),ne 3 (by decide) (by decide),ne 4 (by decide) (by decide),ne 5 (by decide) (by decide),ne 6 (by decide) (by decide),ne 7 (by decide) (by decide),ne 8 (by decide) (by decide),ne 9 (by decide) (by decide),ne 10 (by decide) (by decide),ne 11 (by decide) (by decide),ne 12 (by decide) (by decide),ne 13 (by decide) (by decide),ne 14 (by decide) (by decide),ne 15 (by decide) (by decide),ne 16 (by decide) (by decide),ne 17 (by decide) (by decide),ne 18 (by decide) (by decide),ne 19 (by decide) (by decide),ne 20 (by decide) (by decide),ne 21 (by decide) (by decide),ne 22 (by decide) (by decide),ne 23 (by decide) (by decide),ne 24 (by decide) (by decide),ne 25 (by decide) (by decide),ne 26 (by decide) (by decide),ne 27 (by decide) (by decide),ne 28 (by decide) (by decide),ne 29 (by decide) (by decide),ne 30 (by decide) (by decide),ne 31 (by decide) (by decide),ne 32 (by decide) (by decide),ne 33 (by decide) (by decide),ne 34 (by decide) (by decide),af,dS,xr,ae]
def OF{N:Nat}{p0:Int}(ne:∀k:Int,1<=k->k<=34->(p0==k)=false):I9 N p0=some ((0:Int),(0:Int),false,false,(0:Int),(0:Int),false,false,(0:Int),(0:Int),false,false,(-1:Int)):=by simp[I9.eq_1,ne 1 (by decide) (by decide),ne 2 (by decide) (by decide),ne 3 (by decide) (by decide),ne 4 (by decide) (by decide),ne 5 (by decide) (by decide),ne 6 (by decide) (by decide),ne 7 (by decide) (by decide),ne 8 (by decide) (by decide),ne 9 (by decide) (by decide),ne 10 (by decide) (by decide),ne 11 (by decide) (by decide),ne 12 (by decide) (by decide),ne 13 (by decide) (by decide),ne 14 (by decide) (by decide),ne 15 (by decide) (by decide),ne 16 (by decide) (by decide),ne 17 (by decide) (by decide),ne 18 (by decide) (by decide),ne 19 (by decide) (by decide),ne 20 (by decide) (by decide),ne 21 (by decide) (by decide),ne 22 (by decide) (by decide),ne 23 (by decide) (by decide),ne 24 (by decide) (by decide),ne 25 (by decide) (by decide),ne 26 (by decide) (by decide),ne 27 (by decide) (by decide),ne 28 (by decide) (by decide),ne 29 (by decide) (by decide),ne 30 (by decide) (by decide),ne 31 (by decide) (by decide),ne 32 (by decide) (by decide),ne 33 (by decide) (by decide),ne 34 (by decide) (by decide),af,dS,xr,ae]
def Ql{p0:Int}(ne:∀k:Int,1<=k->k<=34->(p0==k)=false):yH p0=none:=by unfold yH<;>grind
def uU(N:Nat)(p0:Int):I7 N p0=some (match yH p0 with|some (a,b,c)=>[a,b,c]|none=>[]):=by
  rcases Hl p0 with h|ne
  . have:p0=1\/p0=2\/p0=3\/p0=4\/p0=5\/p0=6\/p0=7\/p0=8\/p0=9\/p0=10\/p0=11\/p0=12\/p0=13\/p0=14\/p0=15\/p0=16\/p0=17\/p0=18\/p0=19\/p0=20\/p0=21\/p0=22\/p0=23\/p0=24\/p0=25\/p0=26\/p0=27\/p0=28\/p0=29\/p0=30\/p0=31\/p0=32\/p0=33\/p0=34:=by omega
    rcases this with rfl|rfl|rfl|rfl|rfl|rfl|rfl|rfl|rfl|rfl|rfl|rfl|rfl|rfl|rfl|rfl|rfl|rfl|rfl|rfl|rfl|rfl|rfl|rfl|rfl|rfl|rfl|rfl|rfl|rfl|rfl|rfl|rfl|rfl<;>(simp only[I7.eq_1];rfl)
  .rw[L5 ne,Ql ne]
def Qm:(ahv.all λs=>(mh s.1&&(mh s.2.1&&mh s.2.2))&&((!(s.1==45)||s.2.1==45)&&(!(s.2.1==45)||s.2.2==45)))=true:=by decide
def Qn{p0:Int}{s:UInt8×UInt8×UInt8}(h:yH p0=some s):s∈ahv:=by
 unfold yH at h;split at h;.exact f2 h
 grind
def OG{p0:Int}{a b c:UInt8}(h:yH p0=some (a,b,c)):mh a=true/\mh b=true/\mh c=true:=by have:=eQ.1 Qm _ (Qn h)<;>grind
noncomputable def cnt(a b c:UInt8):Int:=if c≠45then 3 else if b≠45then 2 else if a≠45then 1 else 0
def ahw(a b c:UInt8):decide (cnt a b c<0)=false:=by unfold cnt<;>grind
def wY(N:Nat)(p0:Int):I9 N p0=some (match yH p0 with|some (a,b,c)=>((U a).1,(U a).2.1,(U a).2.2.1,(U a).2.2.2,(U b).1,(U b).2.1,(U b).2.2.1,(U b).2.2.2,(U c).1,(U c).2.1,(U c).2.2.1,(U c).2.2.2,cnt a b c)|none=>((0:Int),(0:Int),false,false,(0:Int),(0:Int),false,false,(0:Int),(0:Int),false,false,(-1:Int))):=by
  rcases Hl p0 with h|ne
  . have:p0=1\/p0=2\/p0=3\/p0=4\/p0=5\/p0=6\/p0=7\/p0=8\/p0=9\/p0=10\/p0=11\/p0=12\/p0=13\/p0=14\/p0=15\/p0=16\/p0=17\/p0=18\/p0=19\/p0=20\/p0=21\/p0=22\/p0=23\/p0=24\/p0=25\/p0=26\/p0=27\/p0=28\/p0=29\/p0=30\/p0=31\/p0=32\/p0=33\/p0=34:=by omega
    rcases this with rfl|rfl|rfl|rfl|rfl|rfl|rfl|rfl|rfl|rfl|rfl|rfl|rfl|rfl|rfl|rfl|rfl|rfl|rfl|rfl|rfl|rfl|rfl|rfl|rfl|rfl|rfl|rfl|rfl|rfl|rfl|rfl|rfl|rfl<;>(simp only[I9.eq_1,zO.eq_1,abp.eq_1,D9.eq_1,uN.eq_1,ae];rfl)
  .rw[OF ne,Ql ne]
def L6{p0:Int}{a b c:UInt8}(h:yH p0=some (a,b,c)):(a=45->b=45)/\(b=45->c=45):=by have:=eQ.1 Qm _ (Qn h)<;>grind
noncomputable def i64(v:Int):Prop:=-9223372036854775808<=v/\v<=9223372036854775807
noncomputable def fits(c:UInt8)(v:Int):Bool:=decide ((U c).1<=v)&&decide (v<=(U c).2.1)
noncomputable def eY(x:Instr):Bool:=match yH x.1with|some (a,b,c)=>fits a x.2.1&&(fits b x.2.2.1&&fits c x.2.2.2)|none=>false
noncomputable def okI(x:Instr):Prop:=i64 x.2.1/\i64 x.2.2.1/\i64 x.2.2.2
def apk(c:UInt8)(v:Int):(decide (v<(U c).1)||decide (v>(U c).2.1))=!fits c v:=by unfold fits<;>grind
def Yj{α:Type}(a:Bool)(x y:α):(bif !a then x else y)=bif a then y else x:=by grind
def vA(N:Nat)(x:Instr):LO N (x.1,x.2.1,x.2.2.1,x.2.2.2)=some (bif eY x then 0 else 8):=by rw[LO.eq_1,wY];unfold eY;cases yH x.1with|none=>rfl|some s=>obtain⟨a,b,c⟩:=s;simp only[LN.eq_1,ae,ahw,af,dS,apk]<;>grind
def ahx(v:Int)(lo n:Int):(decide (v>=lo)&&decide (v<n))=(decide (lo<=v)&&decide (v<=n-1)):=by grind
def zS{N:Nat}{c:UInt8}{v:Int}(hc:mh c=true)(hv:i64 v):Oi N ((c.toNat:Int),v)=some (fits c v):=by
 have h:c=119\/c=114\/c=110\/c=116\/c=99\/c=98\/c=102\/c=105\/c=103\/c=101\/c=45:=by simpa[mh]using hc
 rw[Oi.eq_1];simp[gC,dS,abx,ae,ahx];rcases h with rfl|rfl|rfl|rfl|rfl|rfl|rfl|rfl|rfl|rfl|rfl;all_goals first
    |rfl|(simp[fits,U,hv.1,hv.2];done)
    | (show some (v==0)=some (decide (0<=v)&&decide (v<=0));by_cases h:v=0;.subst h;rfl
       . rw[show(v==0)=false by simpa using h];by_cases h1:0<=v;.simp[show¬v<=0 by omega]
         .simp[h1])
def Eh(N:Nat){x:Instr}(hx:okI x):R7 N (x.1,x.2.1,x.2.2.1,x.2.2.2)=some (bif eY x then 0 else 8):=by rw[R7.eq_1,uU,ae,Lz.eq_1];unfold eY;cases h:yH x.1with|none=>rfl|some s=>obtain⟨a,b,c⟩:=s;obtain⟨h1,h2,h3⟩:=OG h;have e0:idx [a,b,c] 0=some a:=rfl;have e1:idx [a,b,c] 1=some b:=rfl;have e2:idx [a,b,c] 2=some c:=rfl;simp only[show((([a,b,c]:List UInt8).length:Int)!=3)=false from rfl,af,e0,e1,e2,ae,zS h1 hx.1,zS h2 hx.2.1,zS h3 hx.2.2,Yj]<;>grind
def Ho(N:Nat):∀(j k n:Nat)(pre:List Int),n<128^(j+1)->j<k->pre.length+j<=1000->∃(m:Nat)(l:List Int),No N k ((n:Int),pre)=some ((m:Int),pre++l)/\yF j n=l++[(m:Int)]/\m<128/\l.length<=j
 |j,0,n,pre,_,h,_=>by omega|0,k+1,n,pre,hn,_,_=>by refine⟨n,[],?_,rfl,by omega,by simp⟩;rw[No.eq_2,bo (by omega),af,dq]|j+1,k+1,n,pre,hn,hk,hp=>by
  rw[No.eq_2];by_cases h:n<128;.refine⟨n,[],?_,by rw[yF,ba h];rfl,h,by simp⟩<;>grind
  .obtain⟨m,l,h1,h2,h3,h4⟩:=Ho N j k (n/128) (pre++[((n%128+128:Nat):Int)]) (by rw[Nat.pow_succ]at hn;omega) (by omega) (by simp;omega);refine⟨m,((n%128+128:Nat):Int)::l,?_,by rw[yF,be h,h2];rfl,h3,by simp;omega⟩;rw[bm (by omega),au,aq (by omega) (by omega),sC,Yh _ (vx _ (by omega)),show(128:Int)=((128:Nat):Int)from rfl,yG,show n%256%128=n%128by omega,h1,bi];rfl
def yI{N n:Nat}(hN:20<N)(hn:n<18446744073709551616):iB N (n:Int)=some (V n):=by
 rw[iB.eq_1];unfold V;by_cases h:n<128;.rw[bo (by omega),af,aq (by omega) (by omega),aj,yF,ba h,sC,pC (by omega)]
 .rw[bm (by omega),au,aq (by omega) (by omega),aj];obtain⟨m,l,h1,h2,h3,h4⟩:=Ho N 8 N (n/128) [((n%128+128:Nat):Int)] (by omega) (by omega) (by simp);rw[sC,Yh _ (vx _ (by omega)),show(128:Int)=((128:Nat):Int)from rfl,yG,show n%256%128=n%128by omega,h1,ae,aq (by simp;omega) (by omega),aj,yF,be h,h2,sC,show m%256=m by omega];rfl
def yJ(N:Nat):∀(j k n:Nat)(pre:List Int),n<128^(j+1)->n<18446744073709551616->j<k->pre.length+j<=1000->∃(m:Nat)(l:List Int),Ha N k ((n:Int),pre)=some ((m:Int),pre++l)/\yF j n=l++[(m:Int)]/\m<128/\l.length<=j
 |j,0,n,pre,_,_,h,_=>by omega|0,k+1,n,pre,hn,_,_,_=>by refine⟨n,[],?_,rfl,by omega,by simp⟩;rw[Ha.eq_2,bo (by omega),af,dq]|j+1,k+1,n,pre,hn,h64,hk,hp=>by
    rw[Ha.eq_2];by_cases h:n<128;.refine⟨n,[],?_,by rw[yF,ba h];rfl,h,by simp⟩;rw[bo (by omega),af,dq]
    . obtain⟨m,l,h1,h2,h3,h4⟩:=yJ N j k (n/128) (pre++[((n%128+128:Nat):Int)]) (by rw[Nat.pow_succ]at hn;omega) (by omega) (by omega) (by simp;omega);refine⟨m,((n%128+128:Nat):Int)::l,?_,by rw[yF,be h,h2];rfl,h3,by simp;omega⟩;have e:ZR ((ZR (Int.tmod (n:Int) (128:Int)))+(128:Int))=((n%128+128:Nat):Int):=by rw[show(128:Int)=((128:Nat):Int)from rfl,L4,sC,show((n%128%256:Nat):Int)+((128:Nat):Int)=((n%128+128:Nat):Int)by omega,sC];omega
      rw[bm (by omega),au,aq (by omega) (by omega),aj,e,show(128:Int)=((128:Nat):Int)from rfl,L3,nZ (by omega),h1,bi];rfl
def kX{N n:Nat}(hN:20<N)(hn:n<18446744073709551616):iO N (n:Int)=some (V n):=by rw[iO.eq_1];unfold V;obtain⟨m,l,h1,h2,h3,h4⟩:=yJ N 9 N n [] (by omega) hn (by omega) (by simp);rw[h1,ae,aq (by simp;omega) (by omega),aj,h2,sC,show m%256=m by omega];rfl
def oQ{N n:Nat}(hN:20<N)(hn:n<18446744073709551616):wM N (n:Int)=some (V n):=by rw[wM.eq_1,nZ hn,kX hN hn];rfl
noncomputable def said(s:List UInt8):List Int:=V s.length++bN s
def n4(s:List UInt8):(said s).length<=10+s.length:=by have:=cZ s.length;rw[said,bb,de];omega
def Jc{N:Nat}{s:List UInt8}(hN:20<N)(hs:s.length<=1000000):Oj N s=some (said s):=by have:=cZ s.length;rw[Oj.eq_1,nZ (by omega),kX hN (by omega),ae,aq (by rw[de];omega) (by omega)];rfl
def wrap_u64(n:Int):IntKind.u64.wrap n=n%18446744073709551616:=rfl
def Yk{n:Int}(h:-9223372036854775808<=n/\n<=9223372036854775807):aba .u64 (aR ((aR n)*2)) (aR (Int.fdiv n 9223372036854775808))=(JF n:Int):=by
  unfold JF;by_cases h0:0<=n
  . rw[ba h0,aY (n:=n) (by omega),ro _ (by omega),Int.ediv_eq_zero_of_lt h0 (by omega),aY (n:=n*2) (by omega),aY (n:=0) (by omega)];have e:n*2=(((2*n).toNat:Nat):Int):=by omega
    rw[e];unfold aba;have e2:(BitVec.ofInt IntKind.u64.bits (((2*n).toNat:Nat):Int)^^^BitVec.ofInt IntKind.u64.bits 0).toNat=(2*n).toNat:=by show(BitVec.ofInt 64 (((2*n).toNat:Nat):Int)^^^BitVec.ofInt 64 0).toNat=(2*n).toNat;grind
    rw[e2];exact aY (by omega)
  . rw[be h0];have e1:aR n=n+18446744073709551616:=by show IntKind.u64.wrap n=_;rw[wrap_u64];omega
    have e3:Int.fdiv n 9223372036854775808=-1:=by grind
    have e4:aR (-1)=18446744073709551615:=by decide
    have e5:aR ((n+18446744073709551616)*2)=((18446744073709551615-(-2*n-1).toNat:Nat):Int):=by show IntKind.u64.wrap _=_;rw[wrap_u64];omega
    rw[e1,e3,e4,e5];unfold aba;have hlt:(-2*n-1).toNat<18446744073709551616:=by omega
    generalize(-2*n-1).toNat=m at hlt;have e2:(BitVec.ofInt IntKind.u64.bits ((18446744073709551615-m:Nat):Int)^^^BitVec.ofInt IntKind.u64.bits 18446744073709551615).toNat=m:=by show(BitVec.ofInt 64 ((18446744073709551615-m:Nat):Int)^^^BitVec.ofInt 64 18446744073709551615).toNat=m;rw[show BitVec.ofInt 64 18446744073709551615=BitVec.allOnes 64from by decide,BitVec.xor_allOnes,BitVec.toNat_not,ol,pd];omega
    rw[e2];exact aY (by omega)
def Hp{N:Nat}{n:Int}(hN:20<N)(h:-9223372036854775808<=n/\n<=9223372036854775807):sy N n=some (V (JF n)):=by rw[sy.eq_1,Yk h,yI hN (OD h)];rfl
def Hq{N:Nat}{n:Int}(h:-9223372036854775808<=n/\n<=9223372036854775807):sx N n=some (JF n:Int):=by
 rw[sx.eq_1];unfold JF;by_cases h0:0<=n;.rw[bm h0,au,ba h0,aY (n:=n) (by omega),aY (by omega)]<;>grind
 .rw[bo h0,af,be h0,aO (n:=n+1) (by omega),aO (n:=0-(n+1)) (by omega),aY (n:=0-(n+1)) (by omega),aY (n:=(0-(n+1))*2) (by omega),aY (by omega)]<;>grind
def n5{N:Nat}{v:Int}(hN:20<N)(h:0<=v/\v<=9223372036854775807):iB N (aR v)=some (V v.toNat):=by obtain⟨n,rfl⟩:=dE h.1;rw[nZ (by omega),yI hN (by omega)];rfl
def BB{N:Nat}{v:Int}(hN:20<N)(h:0<=v/\v<=9223372036854775807):iO N (aR v)=some (V v.toNat):=by obtain⟨n,rfl⟩:=dE h.1;rw[nZ (by omega),kX hN (by omega)];rfl
def pO{N:Nat}{v:Int}(hN:20<N)(h:0<=v/\v<=9223372036854775807):wM N v=some (V v.toNat):=by obtain⟨n,rfl⟩:=dE h.1;rw[oQ hN (by omega)];rfl
def iC:((0:Int)!=(0:Int))=false:=rfl
noncomputable def tn(c:UInt8)(v:Int):List Int:=if c=45then[]else if c=110\/c=103\/c=101then V (JF v)else V v.toNat
noncomputable def encI(x:Instr):List Int:=match yH x.1with|some (a,b,c)=>x.1::(tn a x.2.1++(tn b x.2.2.1++tn c x.2.2.2))|none=>[x.1]
def pP(x:Instr):(encI x).length<=31:=by
 have hk:∀c v,(tn c v).length<=10:=λc v=>by
    unfold tn;split;.simp
    . split;.exact(cZ _).2
      .exact(cZ _).2
 unfold encI<;>grind
noncomputable def ZU(c:UInt8):Bool:=c==110||(c==103||c==101)
def Cj{c:UInt8}:ZU c=true↔c=110\/c=103\/c=101:=by simp[ZU]
def Qo(c:UInt8):decide ((U c).1<0)=ZU c:=by
 unfold U ZU;repeat' split
 all_goals first|(subst_vars;rfl)|(rename_i h1 h2 h3 h4 h5 h6 h7 h8 h9 ZO;simp[h3,h9,ZO])
def apl(c:UInt8):((c.toNat:Int)==45)=(c==45):=by
 by_cases h:c=45;.subst h;rfl
 .rw[show(c==45)=false by simpa using h,mi];intro e;exact h (UInt8.toNat_inj.1 (by show c.toNat=45;omega))
def Yl{N:Nat}{c:UInt8}(hc:mh c=true):vG N ((c.toNat:Nat):Int)=some (ZU c):=by
 have h:c=119\/c=114\/c=110\/c=116\/c=99\/c=98\/c=102\/c=105\/c=103\/c=101\/c=45:=by simpa[mh]using hc
 rcases h with rfl|rfl|rfl|rfl|rfl|rfl|rfl|rfl|rfl|rfl|rfl<;>rfl
def yK(v:Int):tn 45 v=[]:=rfl
def rE(c:UInt8)(v:Int):(tn c v).length<=10:=by
  unfold tn;split;.simp
  . split;.exact(cZ _).2
    .exact(cZ _).2
def L7{c:UInt8}{v:Int}(h:fits c v=true)(hs:ZU c=false):0<=v:=by rw[<-Qo,mt]at hs;unfold fits at h<;>grind
def Ei{α β:Type}(c:Bool)(x y:Option α)(k:α->Option β):(bif c then Option.bind x k else Option.bind y k)=Option.bind (bif c then x else y) k:=by grind
def zT{α β γ:Type}(c:Bool)(x:Option γ)(f:γ->Option α)(y:Option α)(k:α->Option β):(bif c then Option.bind x (λu=>Option.bind (f u) k)else Option.bind y k)=Option.bind (bif c then Option.bind x f else y) k:=by grind
def opO{N:Nat}(hN:20<N){c:UInt8}{v:Int}(h:fits c v=true)(h45:c≠45)(hv:i64 v):(bif ZU c then sy N v else iB N (aR v))=some (tn c v):=by unfold tn;rw[be h45];cases hs:ZU c with|true=>rw[au,ba (Cj.1 hs),Hp hN hv]|false=>rw[af,be (λe=>by rw[Cj.2 e]at hs;cases hs),n5 hN ⟨L7 h hs,hv.2⟩]
def op6{N:Nat}(hN:20<N){c:UInt8}{v:Int}(h:fits c v=true)(h45:c≠45)(hv:i64 v):(bif ZU c then Option.bind (sx N v) (λu=>iO N u)else iO N (aR v))=some (tn c v):=by unfold tn;rw[be h45];cases hs:ZU c with|true=>rw[au,ba (Cj.1 hs),Hq hv,ae,kX hN (OD hv)]|false=>rw[af,be (λe=>by rw[Cj.2 e]at hs;cases hs),BB hN ⟨L7 h hs,hv.2⟩]
def Qp{x:Instr}(hc:eY x=true):∃a b c,yH x.1=some (a,b,c)/\fits a x.2.1=true/\fits b x.2.2.1=true/\fits c x.2.2.2=true:=by unfold eY at hc<;>grind
def Qq{a b c:UInt8}(h:(a=45->b=45)/\(b=45->c=45)):(a=45/\b=45/\c=45)\/(a≠45/\b=45/\c=45)\/(a≠45/\b≠45/\c=45)\/(a≠45/\b≠45/\c≠45):=by grind
def zU(c:UInt8)(v:Int):room (1+(tn c v).length) 1=true:=by have:=rE c v;exact aq (by omega) (by omega)
def Jd(p:Int)(c d:UInt8)(v w:Int):room (([p]++tn c v).length+(tn d w).length) 1=true:=by have:=rE c v;have:=rE d w;exact aq (by simp only[bb,dp];omega) (by omega)
def Ym(p:Int)(c d e:UInt8)(v w u:Int):room ((([p]++tn c v)++tn d w).length+(tn e u).length) 1=true:=by have:=rE c v;have:=rE d w;have:=rE e u;exact aq (by simp only[bb,dp];omega) (by omega)
def abz{N:Nat}(hN:20<N){x:Instr}(hx:okI x)(hc:eY x=true):W7 N (x.1,x.2.1,x.2.2.1,x.2.2.2)=some (encI x,0):=by
 rw[W7.eq_1,vA,hc];obtain⟨a,b,c,hs,h1,h2,h3⟩:=Qp hc;obtain⟨i1,i2,i3⟩:=hx;have g00:decide ((0:Int)>=0)=true:=rfl;have g01:decide ((0:Int)>=1)=false:=rfl;have g02:decide ((0:Int)>=2)=false:=rfl;have g03:decide ((0:Int)>=3)=false:=rfl;have g10:decide ((1:Int)>=0)=true:=rfl;have g11:decide ((1:Int)>=1)=true:=rfl;have g12:decide ((1:Int)>=2)=false:=rfl;have g13:decide ((1:Int)>=3)=false:=rfl;have g20:decide ((2:Int)>=0)=true:=rfl;have g21:decide ((2:Int)>=1)=true:=rfl;have g22:decide ((2:Int)>=2)=true:=rfl;have g23:decide ((2:Int)>=3)=false:=rfl;simp only[au,iC,af,ae,wY,hs,LN.eq_1,encI,Qo];rcases Qq (L6 hs)with⟨rfl,rfl,rfl⟩|⟨ha,rfl,rfl⟩|⟨ha,hb,rfl⟩|⟨ha,hb,hc⟩;.simp[show cnt 45 45 45=0from rfl,g00,g10,g20,au,yK,dq]
 .simp only[show cnt a 45 45=1by simp[cnt,ha],g01,g11,g21,au,af,Ei,opO hN h1 ha i1,ae,zU,aj,yK,dq]<;>grind
 .simp only[show cnt a b 45=2by simp[cnt,hb],g02,g12,g22,au,af,Ei,opO hN h1 ha i1,opO hN h2 hb i2,ae,zU,Jd,aj,yK,dq]<;>grind
 .simp only[show cnt a b c=3by simp[cnt,hc],g03,g13,g23,af,Ei,opO hN h1 ha i1,opO hN h2 hb i2,opO hN h3 hc i3,ae,zU,Jd,Ym,aj]<;>grind
def ahy{α:Type}(a b c:α):idx [a,b,c] 0=some a/\idx [a,b,c] 1=some b/\idx [a,b,c] 2=some c:=⟨rfl,rfl,rfl⟩
def OH{N:Nat}(hN:20<N){x:Instr}(hx:okI x)(hc:eY x=true):VJ N (x.1,x.2.1,x.2.2.1,x.2.2.2)=some (encI x):=by
 rw[VJ.eq_1,uU];obtain⟨a,b,c,hs,h1,h2,h3⟩:=Qp hc;obtain⟨i1,i2,i3⟩:=hx;obtain⟨k1,k2,k3⟩:=OG hs;simp only[ae,hs,Lz.eq_1,(ahy a b c).1,(ahy a b c).2.1,(ahy a b c).2.2,apl,Yl k1,Yl k2,Yl k3,encI];rcases Qq (L6 hs)with⟨rfl,rfl,rfl⟩|⟨ha,rfl,rfl⟩|⟨ha,hb,rfl⟩|⟨ha,hb,hc⟩;.rfl
 .simp only[show(a==45)=false by simpa using ha,ll,au,af,zT,op6 hN h1 ha i1,ae,zU,aj,yK];simp
 .simp only[show(a==45)=false by simpa using ha,show(b==45)=false by simpa using hb,ll,au,af,zT,op6 hN h1 ha i1,op6 hN h2 hb i2,ae,zU,Jd,aj,yK];simp
 .simp only[show(a==45)=false by simpa using ha,show(b==45)=false by simpa using hb,show(c==45)=false by simpa using hc,af,zT,op6 hN h1 ha i1,op6 hN h2 hb i2,op6 hN h3 hc i3,ae,zU,Jd,Ym,aj];simp
end Go.Proofs.YtclkonemhghbkaaGreat
