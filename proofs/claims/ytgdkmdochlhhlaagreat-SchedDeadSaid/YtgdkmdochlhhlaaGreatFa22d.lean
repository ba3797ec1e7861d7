/- Parts of the proof. -/
import Derived.Test.YtgdkmdochlhhlaaGreatLaw22dc
import Derived.Test.YtgdkmdochlhhlaaGreatSymOr
import Derived.Test.YtgdkmdochlhhlaaGreatRows
import Derived.JoinedOf
import Derived.ProofKit
set_option linter.unusedSimpArgs false
set_option linter.unusedVariables false
set_option linter.defProp false
namespace Go.Proofs.YtgdkmdochlhhlaaGreat
set_option linter.unusedVariables false
open Go Go.bL Go.Sym
set_option maxRecDepth 100000
noncomputable section
abbrev dI(n:Int):D:=.sc (.int .i64 n)
abbrev dB(n:Int):D:=.sc (.int .u8 n)
abbrev dU(n:Int):D:=.sc (.int .u64 n)
def bS:List Int->List (List D)|[]=>[]|n::r=>cond (decide (n<0)) (List.replicate n.natAbs [dB 0]++bS r) ([dB n]::bS r)
def mdA:Nat->bL.Mode:=λf=>match f with|4=>⟨[(19,0),(32,0)],false⟩|10=>⟨[(65,4294967297),(42,4294967307),(37,4294967297),(59,4294967297),(78,0)],false⟩|32=>⟨[(38,0),(80,0),(67,0),(48,0)],false⟩|37=>⟨[(27,1)],false⟩|38=>⟨[(50,1)],false⟩|40=>⟨[(12,0),(24,0)],false⟩|60=>⟨[(45,4294967296),(2,13),(29,7696581394432)],true⟩|62=>⟨[(42,0),(110,0),(88,0),(97,0),(79,0)],false⟩|64=>⟨[(35,4294967297),(12,4294967307),(7,4294967297),(29,4294967297)],true⟩|72=>⟨[(9,458755),(34,10)],false⟩|74=>⟨[],true⟩|78=>⟨[(41,0)],false⟩|102=>⟨[(45,4294967296),(40,4294967297),(17,4294967307),(12,4294967297),(34,4294967297)],true⟩|103=>⟨[],true⟩|104=>⟨[(94,65537),(90,65537),(3,13),(65,7)],true⟩|105=>⟨[(6,65540),(165,65537),(141,65537),(117,65537),(93,65537),(151,65537),(103,65537),(31,65537),(16,65537),(3,13)],true⟩|106=>⟨[(133,10),(195,4295360513),(176,4295360513),(3,13),(174,7),(193,7)],true⟩|124=>⟨[(65,0),(24,0),(2,13),(42,13518495463505920),(46,13518495463505920)],false⟩|129=>⟨[(19,1),(9,65538)],false⟩|144=>⟨[(4,65540),(51,7)],true⟩|145=>⟨[],true⟩|146=>⟨[(12,65537)],true⟩|147=>⟨[],true⟩|148=>⟨[(13,65537),(8,65537)],true⟩|150=>⟨[(25,10)],true⟩|151=>⟨[],true⟩|152=>⟨[],true⟩|158=>⟨[(23,1),(6,393220)],false⟩|183=>⟨[(32,0),(93,0),(37,0),(66,0)],false⟩|184=>⟨[(19,0),(30,0),(39,0),(48,0),(57,0),(72,0)],true⟩|185=>⟨[(35,4295360513),(31,4294967307),(12,4295032834),(29,4295032834),(30,2)],true⟩|196=>⟨[(8,1),(5,1)],false⟩|253=>⟨[(65,3298534883328),(79,3298534883328),(220,3298534883328),(226,3298534883328),(241,3298534883328),(5,13)],true⟩|254=>⟨[(126,10)],true⟩|260=>⟨[(54,1),(45,2),(46,11)],true⟩|264=>⟨[(2,393220),(5,1),(3,1)],false⟩|320=>⟨[(27,10)],true⟩|321=>⟨[],true⟩|322=>⟨[(8,1)],false⟩|328=>⟨[],true⟩|338=>⟨[],true⟩|340=>⟨[],true⟩|_=>⟨[],false⟩
def tqA(f:Nat):qA:=(Fp Tryz.prog dy mdA f).getD default
def Ay(f:Nat):tqA f=(Fp Tryz.prog dy mdA f).getD default:=rfl
def Nf(f:Nat)(l:List AV):Option AV:=match(G11 20000000).E.ym f with
 |some c=>match Nat.beq c.rk 65535with|true=>none|false=>aiT c l
 |none=>none
def Ng:Tryz.prog.follows .mixedOrders=true:=by kernel_rfl
def kO(f:Nat)(l:List AV)(a:AV)(h:Nf f l=some a):dG Tryz.prog f l a:=by
 unfold Nf at h;split at h
 .rename_i c hc;split at h;.cases h
  .rename_i hk;exact acT (T:=bQ NY) (λn=>lT RF Ng Bp adL n) (((G11 20000000).ok NY).ym f c hc) hk h
 .cases h
def bA:List Nat:=[6,8,9,12,13,14,25,37,38,39,40,54,55,59,60,61,64,74,75,77,86,87,95,98,99,102,103,104,105,106,128,129,144,145,146,147,148,150,151,152,158,181,182,184,185,195,196,216,225,251,252,253,254,260,264,320,321,322,323,324,326,328,329,330,338,339,340]
def cA:List Nat:=[4,6,8,9,10,12,13,14,15,25,32,36,37,38,39,40,54,55,59,60,61,62,64,67,68,69,70,71,72,74,75,77,78,86,87,95,98,99,102,103,104,105,106,118,124,128,129,144,145,146,147,148,150,151,152,158,181,182,183,184,185,195,196,216,225,251,252,253,254,260,264,320,321,322,323,324,326,328,329,330,338,339,340]
def aA:cA.all (λf=>(Fp Tryz.prog dy mdA f).isSome&&(KD Tryz.prog dy mdA f).isNone)=true:=by kernel_rfl
def TL:Tb:=⟨zR [36,38,67,68,69,70,71,72,77,118] tqA,Nc Nf⟩
def okL(n:Nat):cD Tryz.prog (ga TL n):=lT (qy kO) Ng Bp (rO (l:=cA) Ay aA (by kernel_rfl)) n
def imF:List (List D):=[[(.sc (.string ⟨#[119,111,114,107]⟩)),dI 1,dI 0,(.sl [[(.sc (.string ⟨#[110]⟩)),dI 0],[(.sc (.string ⟨#[107]⟩)),dI 0],[(.sc (.string ⟨#[111,110]⟩)),dI 1]]),(.sl [[dB 1,dI 1,dI 1,dI 0],[dB 10,dI 2,dI 0,dI 1],[dB 23,dI 2,dI 8,dI 0],[dB 7,dI 1,dI 0,dI 1],[dB 24,dI 1,dI 0,dI 0],[dB 25,dI 1,dI 1,dI 0],[dB 6,dI 1,dI 1,dI 0],[dB 34,dI 1,dI 0,dI 0],[dB 34,dI 0,dI 0,dI 0],[dB 34,dI (-1),dI 0,dI 0]]),(.sl [[dI 0,dU 0],[dI 5,dU 8],[dI 6,dU 0]]),(.sl [[dI 0,dU 1],[dI 1,dU 3],[dI 2,dU 7],[dI 9,dU 0]])],[(.sc (.string ⟨#[108,97,116,101]⟩)),dI 1,dI (-1),(.sl [[(.sc (.string ⟨#[110]⟩)),dI 0],[(.sc (.string ⟨#[111,110]⟩)),dI 1],[(.sc (.string ⟨#[107]⟩)),dI 0]]),(.sl [[dB 29,dI 1,dI 2,dI 0],[dB 23,dI 1,dI 4,dI 0],[dB 10,dI 1,dI 0,dI 2],[dB 23,dI 1,dI 5,dI 0],[dB 34,dI (-1),dI 0,dI 0],[dB 28,dI 0,dI 0,dI 0],[dB 34,dI (-1),dI 0,dI 0]]),(.sl [[dI 0,dU 0]]),(.sl [[dI 0,dU 1],[dI 1,dU 7],[dI 6,dU 0]])],[(.sc (.string ⟨#[116,97,115,107]⟩)),dI 1,dI (-1),(.sl [[(.sc (.string ⟨#[107]⟩)),dI 0],[(.sc (.string ⟨#[111,110]⟩)),dI 1]]),(.sl [[dB 31,dI 0,dI 0,dI 0],[dB 33,dI 1,dI 0,dI 0],[dB 23,dI 1,dI 4,dI 0],[dB 32,dI 0,dI 0,dI 0],[dB 34,dI (-1),dI 0,dI 0]]),(.sl [[dI 0,dU 0]]),(.sl [[dI 0,dU 1],[dI 2,dU 3],[dI 4,dU 0]])],[(.sc (.string ⟨#[102,97,105,108]⟩)),dI 1,dI (-1),(.sl [[(.sc (.string ⟨#[110]⟩)),dI 0]]),(.sl [[dB 28,dI 0,dI 0,dI 0],[dB 34,dI (-1),dI 0,dI 0]]),(.sl [[dI 0,dU 0]]),(.sl [[dI 0,dU 1],[dI 1,dU 0]])],[(.sc (.string ⟨#[108,101,97,118,101]⟩)),dI 0,dI (-1),(.sl []),(.sl [[dB 30,dI 0,dI 0,dI 0],[dB 34,dI (-1),dI 0,dI 0]]),(.sl [[dI 0,dU 0]]),(.sl [[dI 0,dU 0]])],[(.sc (.string ⟨#[113,117,105,101,116]⟩)),dI 0,dI (-1),(.sl [[(.sc (.string ⟨#[111,110]⟩)),dI 1],[(.sc (.string ⟨#[110]⟩)),dI 0]]),(.sl [[dB 29,dI 0,dI 1,dI 0],[dB 34,dI (-1),dI 0,dI 0]]),(.sl [[dI 0,dU 0]]),(.sl [[dI 0,dU 0]])],[(.sc (.string ⟨#[97,103,97,105,110]⟩)),dI 1,dI (-1),(.sl [[(.sc (.string ⟨#[110]⟩)),dI 0],[(.sc (.string ⟨#[111,110]⟩)),dI 1],[(.sc (.string ⟨#[107]⟩)),dI 0]]),(.sl [[dB 29,dI 1,dI 2,dI 0],[dB 28,dI 0,dI 0,dI 0],[dB 34,dI (-1),dI 0,dI 0]]),(.sl [[dI 0,dU 0]]),(.sl [[dI 0,dU 1],[dI 1,dU 7],[dI 2,dU 0]])]]
def aqB:AV:=(.d (.sl [[dB 2,dI 0,dI 0,(.sl [])],[dB 1,dI 0,dI 0,(.sl [])],[dB 3,dI 0,dI 0,(.sl [])],[dB 4,dI 0,dI 0,(.sl [])],[dB 5,dI 0,dI 0,(.sl [[(.sc (.string ⟨#[110]⟩)),dI 0],[(.sc (.string ⟨#[111,110]⟩)),dI 1],[(.sc (.string ⟨#[97,116]⟩)),dI 3]])],[dB 6,dI 0,dI 3,(.sl [])],[dB 7,dI 0,dI 0,(.sl [])],[dB 4,dI 4,dI 0,(.sl [])]]))
def aqC:AV:=(.d (.sl [[(.sc (.string ⟨#[108,97,116,101]⟩))],[(.sc (.string ⟨#[116,97,115,107]⟩))],[(.sc (.string ⟨#[98,111,111,109]⟩))]]))
def Nh:List AV:=[aqB,aqC,(.d (.sl ([(.sc (.string ⟨#[109,97,105,110]⟩)),dI 0,dI (-1),(.sl [[(.sc (.string ⟨#[110]⟩)),dI 0],[(.sc (.string ⟨#[111,110]⟩)),dI 1],[(.sc (.string ⟨#[115]⟩)),dI 2],[(.sc (.string ⟨#[112]⟩)),dI 3],[(.sc (.string ⟨#[114]⟩)),dI 4],[(.sc (.string ⟨#[97]⟩)),dI 5],[(.sc (.string ⟨#[108]⟩)),dI 6],[(.sc (.string ⟨#[107]⟩)),dI 0],[(.sc (.string ⟨#[113]⟩)),dI 7]]),(.sl [[dB 1,dI 0,dI 5,dI 0],[dB 3,dI 1,dI 1,dI 0],[dB 2,dI 2,dI 0,dI 0],[dB 15,dI 3,dI 0,dI 0],[dB 4,dI 4,dI 0,dI 0],[dB 4,dI 5,dI 0,dI 0],[dB 1,dI 7,dI 2,dI 0],[dB 18,dI 6,dI 7,dI 0],[dB 15,dI 8,dI 0,dI 0],[dB 12,dI 1,dI 1,dI 0],[dB 23,dI 1,dI 12,dI 0],[dB 32,dI 7,dI 0,dI 0],[dB 34,dI (-1),dI 0,dI 0]]),(.sl [[dI 0,dU 0]]),(.sl [[dI 0,dU 0],[dI 1,dU 1],[dI 2,dU 3],[dI 3,dU 7],[dI 4,dU 15],[dI 5,dU 31],[dI 6,dU 63],[dI 7,dU 191],[dI 8,dU 255],[dI 9,dU 511],[dI 12,dU 0]])]::imF)))]
def Nn:List AV:=[aqB,aqC,(.d (.sl ([(.sc (.string ⟨#[109,97,105,110]⟩)),dI 0,dI (-1),(.sl [[(.sc (.string ⟨#[110]⟩)),dI 0],[(.sc (.string ⟨#[111,110]⟩)),dI 1],[(.sc (.string ⟨#[115]⟩)),dI 2],[(.sc (.string ⟨#[112]⟩)),dI 3],[(.sc (.string ⟨#[114]⟩)),dI 4],[(.sc (.string ⟨#[97]⟩)),dI 5],[(.sc (.string ⟨#[108]⟩)),dI 6],[(.sc (.string ⟨#[107]⟩)),dI 0],[(.sc (.string ⟨#[113]⟩)),dI 7]]),(.sl [[dB 1,dI 0,dI 5,dI 0],[dB 3,dI 1,dI 1,dI 0],[dB 2,dI 2,dI 0,dI 0],[dB 15,dI 3,dI 0,dI 0],[dB 4,dI 4,dI 0,dI 0],[dB 4,dI 5,dI 0,dI 0],[dB 1,dI 7,dI 2,dI 0],[dB 18,dI 6,dI 7,dI 0],[dB 15,dI 8,dI 0,dI 0],[dB 24,dI 7,dI 0,dI 0],[dB 27,dI 3,dI 0,dI 0],[dB 34,dI (-1),dI 0,dI 0]]),(.sl [[dI 0,dU 0],[dI 10,dU 8],[dI 11,dU 0]]),(.sl [[dI 0,dU 0],[dI 1,dU 1],[dI 2,dU 3],[dI 3,dU 7],[dI 4,dU 15],[dI 5,dU 31],[dI 6,dU 63],[dI 7,dU 191],[dI 8,dU 255],[dI 9,dU 511],[dI 11,dU 0]])]::imF)))]
def li0:tG:=⟨17,[.agg Nh],.d (dI 0)⟩
def li1:tG:=⟨36,[(.d (.sl [[dI 6],[dI 31]]))],.agg Nh⟩
def li2:tG:=⟨97,[.agg Nh],.d (dI 0)⟩
def li3:tG:=⟨50,[.agg Nh],.d (dI 0)⟩
def li4:tG:=⟨17,[.agg Nn],.d (dI 0)⟩
def li5:tG:=⟨36,[(.d (.sl [[dI 27]]))],.agg Nn⟩
def li6:tG:=⟨97,[.agg Nn],.d (dI 0)⟩
def li7:tG:=⟨50,[.agg Nn],.d (dI 0)⟩
def liA:List tG:=[li0,li1,li2,li3,li4,li5,li6,li7]
end
end Go.Proofs.YtgdkmdochlhhlaaGreat
namespace Go.Proofs.YtgdkmdochlhhlaaGreat
set_option linter.unusedVariables false
open Go Go.bL Go.Sym
set_option maxRecDepth 100000
noncomputable section
def la0:dG Tryz.prog li0.f li0.xs li0.a:=kO _ _ _ (by kernel_rfl)
def la1:dG Tryz.prog li1.f li1.xs li1.a:=dA (okL 20000) (by kernel_rfl) (by kernel_rfl)
def la2:dG Tryz.prog li2.f li2.xs li2.a:=kO _ _ _ (by kernel_rfl)
def la3:dG Tryz.prog li3.f li3.xs li3.a:=kO _ _ _ (by kernel_rfl)
end
end Go.Proofs.YtgdkmdochlhhlaaGreat
namespace Go.Proofs.YtgdkmdochlhhlaaGreat
set_option linter.unusedVariables false
open Go Go.bL Go.Sym
set_option maxRecDepth 100000
noncomputable section
def la4:dG Tryz.prog li4.f li4.xs li4.a:=kO _ _ _ (by kernel_rfl)
def la5:dG Tryz.prog li5.f li5.xs li5.a:=dA (okL 20000) (by kernel_rfl) (by kernel_rfl)
def la6:dG Tryz.prog li6.f li6.xs li6.a:=kO _ _ _ (by kernel_rfl)
def la7:dG Tryz.prog li7.f li7.xs li7.a:=kO _ _ _ (by kernel_rfl)
end
end Go.Proofs.YtgdkmdochlhhlaaGreat
namespace Go.Proofs.YtgdkmdochlhhlaaGreat
set_option linter.unusedVariables false
open Go Go.bL Go.Sym
set_option maxRecDepth 100000
noncomputable section
def Fj:∀k∈liA,dG Tryz.prog k.f k.xs k.a:=by
 intro k hk;simp only[liA,dl,dE,km]at hk;rcases hk with rfl|rfl|rfl|rfl|rfl|rfl|rfl|rfl;.exact la0
 .exact la1
 .exact la2
 .exact la3
 .exact la4
 .exact la5
 .exact la6
 .exact la7
def TA0:Tb:=⟨zR ([62,183]++bA) tqA,Nc (orA (lits liA) Nf)⟩
def aqD(n:Nat):cD Tryz.prog (ga TA0 n):=lT (qy (xo (qz Fj) kO)) Ng Bp (rO (l:=cA) Ay aA (by kernel_rfl)) n
def TA1:Tb:=⟨zR ([32,124]++bA) tqA,vG (M5 [62,183] (M3 (ga TA0 20000))) (Nc (orA (lits liA) Nf))⟩
def awq(n:Nat):cD Tryz.prog (ga TA1 n):=lT (JG (JH (cV (aqD 20000))) (qy (xo (qz Fj) kO))) Ng Bp (rO (l:=cA) Ay aA (by kernel_rfl)) n
def TS:Tb:=⟨zR ([10,78]++bA) tqA,vG (M5 [32,124] (M3 (ga TA1 20000))) (vG (M5 [62,183] (M3 (ga TA0 20000))) (Nc (orA (lits liA) Nf)))⟩
def CA(n:Nat):cD Tryz.prog (ga TS n):=lT (JG (JH (cV (awq 20000))) (JG (JH (cV (aqD 20000))) (qy (xo (qz Fj) kO)))) Ng Bp (rO (l:=cA) Ay aA (by kernel_rfl)) n
def ms0:List AV:=Nh++[.d (dI 1000),.d (dI 2048),.d (dI 4096),.d (dI 4),.d (dU 65536),(.d (.sl (bS [108,97,116,101,-4,116,97,115,107,-4,98,111,111,109,-4]))),(.d (.sl [[dU 16777216,(.sl (bS [-152]))]])),(.d (.sl [[dB 1,dU 256,dU 16777368,dU 0,dU 0,dI 0]])),.d (dI 0)]
def ms1:List AV:=Nh++[.d (dI 1000),.d (dI 2048),.d (dI 4096),.d (dI 4),.d (dU 65536),(.d (.sl (bS [108,97,116,101,-4,116,97,115,107,-4,98,111,111,109,-4]))),(.d (.sl [[dU 16777216,(.sl (bS [-24,5,-127]))]])),(.d (.sl [[dB 1,dU 257,dU 16777368,dU 0,dU 0,dI 0]])),.d (dI 1)]
def ms2:List AV:=Nh++[.d (dI 1000),.d (dI 2048),.d (dI 4096),.d (dI 4),.d (dU 65536),(.d (.sl (bS [108,97,116,101,-4,116,97,115,107,-4,98,111,111,109,-4]))),(.d (.sl [[dU 16777216,(.sl (bS [-24,5,-7,1,-119]))]])),(.d (.sl [[dB 1,dU 258,dU 16777368,dU 0,dU 0,dI 0]])),.d (dI 2)]
def ms3:List AV:=Nh++[.d (dI 1000),.d (dI 2048),.d (dI 4096),.d (dI 4),.d (dU 65536),(.d (.sl (bS [108,97,116,101,-4,116,97,115,107,-4,98,111,111,109,-4]))),(.d (.sl [[dU 16777216,(.sl (bS [-24,5,-7,1,-9,1,-5,4,-103]))]])),(.d (.sl [[dB 1,dU 259,dU 16777368,dU 0,dU 0,dI 0]])),.d (dI 3)]
def ms4:List AV:=Nh++[.d (dI 1000),.d (dI 2048),.d (dI 4096),.d (dI 4),.d (dU 65536),(.d (.sl (bS [108,97,116,101,-4,116,97,115,107,-4,98,111,111,109,-12]))),(.d (.sl [[dU 16777216,(.sl (bS [-24,5,-7,1,-9,1,-5,4,-7,24,0,1,-93]))]])),(.d (.sl [[dB 1,dU 260,dU 16777368,dU 0,dU 0,dI 0]])),.d (dI 4)]
def ms5:List AV:=Nh++[.d (dI 1000),.d (dI 2048),.d (dI 4096),.d (dI 4),.d (dU 65536),(.d (.sl (bS [108,97,116,101,-4,116,97,115,107,-4,98,111,111,109,-12]))),(.d (.sl [[dU 16777216,(.sl (bS [-24,5,-7,1,-9,1,-5,4,-7,24,0,1,-93]))]])),(.d (.sl [[dB 1,dU 261,dU 16777368,dU 0,dU 0,dI 0]])),.d (dI 5)]
def ms6:List AV:=Nh++[.d (dI 1000),.d (dI 2048),.d (dI 4096),.d (dI 4),.d (dU 65536),(.d (.sl (bS [108,97,116,101,-4,116,97,115,107,-4,98,111,111,109,-12]))),(.d (.sl [[dU 16777216,(.sl (bS [-24,5,-7,1,-9,1,-5,4,-7,24,0,1,-93]))]])),(.d (.sl [[dB 1,dU 262,dU 16777368,dU 0,dU 0,dI 0]])),.d (dI 6)]
def ms7:List AV:=Nh++[.d (dI 1000),.d (dI 2048),.d (dI 4096),.d (dI 4),.d (dU 65536),(.d (.sl (bS [108,97,116,101,-4,116,97,115,107,-4,98,111,111,109,-12]))),(.d (.sl [[dU 16777216,(.sl (bS [-24,5,-7,1,-9,1,-5,4,-7,24,0,1,-77,2,-15]))]])),(.d (.sl [[dB 1,dU 263,dU 16777368,dU 0,dU 0,dI 0]])),.d (dI 7)]
def ms8:List AV:=Nh++[.d (dI 1000),.d (dI 2048),.d (dI 4096),.d (dI 4),.d (dU 65536),(.d (.sl (bS [108,97,116,101,-4,116,97,115,107,-4,98,111,111,109,-28]))),(.d (.sl [[dU 16777216,(.sl (bS [-24,5,-7,1,-9,1,-5,4,-7,24,0,1,-53,32,0,1,-5,2,-7,2,-7,2,-15]))]])),(.d (.sl [[dB 1,dU 264,dU 16777368,dU 0,dU 0,dI 0]])),.d (dI 8)]
def ms9:List AV:=Nh++[.d (dI 1000),.d (dI 2048),.d (dI 4096),.d (dI 4),.d (dU 65536),(.d (.sl (bS [108,97,116,101,-4,116,97,115,107,-4,98,111,111,109,-52]))),(.d (.sl [[dU 16777216,(.sl (bS [-24,5,-7,1,-9,1,-5,4,-7,24,0,1,-53,32,0,1,-5,2,-7,2,-7,2,-7,48,0,1,-5]))]])),(.d (.sl [[dB 1,dU 265,dU 16777368,dU 0,dU 0,dI 0]])),.d (dI 9)]
def aqE:List AV:=Nh++[.d (dI 1000),.d (dI 2048),.d (dI 4096),.d (dI 4),.d (dU 65536),(.d (.sl (bS [108,97,116,101,-4,116,97,115,107,-4,98,111,111,109,-52]))),(.d (.sl [[dU 16777216,(.sl (bS [-24,5,-17,1,-5,4,-7,24,0,1,-53,32,0,1,-5,2,-7,2,-7,2,-7,48,0,1,-5]))]])),(.d (.sl [[dB 1,dU 266,dU 16777368,dU 0,dU 0,dI 0]])),.d (dI 10)]
def aqF:List AV:=Nh++[.d (dI 1000),.d (dI 2048),.d (dI 4096),.d (dI 4),.d (dU 65536),(.d (.sl (bS [108,97,116,101,-4,116,97,115,107,-4,98,111,111,109,-52]))),(.d (.sl [[dU 16777216,(.sl (bS [-24,5,-17,1,-5,4,-7,24,0,1,-53,32,0,1,-5,2,-7,2,-7,2,-7,48,0,1,-5]))]])),(.d (.sl [[dB 1,dU 267,dU 16777368,dU 0,dU 0,dI 0]])),.d (dI 11)]
def aiZ:List AV:=Nh++[.d (dI 1000),.d (dI 2048),.d (dI 4096),.d (dI 4),.d (dU 65536),(.d (.sl (bS [108,97,116,101,-4,116,97,115,107,-4,98,111,111,109,-52]))),(.d (.sl [[dU 16777216,(.sl (bS [-24,5,-17,1,-5,4,-7,24,0,1,-53,32,0,1,-5,2,-7,2,-7,2,-7,48,0,1,-5]))]])),(.d (.sl [[dB 2,dU 268,dU 16777368,dU 0,dU 0,dI 2]])),.d (dI 12)]
def awr:List AV:=Nn++[.d (dI 1000),.d (dI 2048),.d (dI 4096),.d (dI 4),.d (dU 65536),(.d (.sl (bS [108,97,116,101,-4,116,97,115,107,-4,98,111,111,109,-4]))),(.d (.sl [[dU 16777216,(.sl (bS [-152]))]])),(.d (.sl [[dB 1,dU 256,dU 16777368,dU 0,dU 0,dI 0]])),.d (dI 0)]
def aqG:List AV:=Nn++[.d (dI 1000),.d (dI 2048),.d (dI 4096),.d (dI 4),.d (dU 65536),(.d (.sl (bS [108,97,116,101,-4,116,97,115,107,-4,98,111,111,109,-4]))),(.d (.sl [[dU 16777216,(.sl (bS [-24,5,-127]))]])),(.d (.sl [[dB 1,dU 257,dU 16777368,dU 0,dU 0,dI 0]])),.d (dI 1)]
def aqH:List AV:=Nn++[.d (dI 1000),.d (dI 2048),.d (dI 4096),.d (dI 4),.d (dU 65536),(.d (.sl (bS [108,97,116,101,-4,116,97,115,107,-4,98,111,111,109,-4]))),(.d (.sl [[dU 16777216,(.sl (bS [-24,5,-7,1,-119]))]])),(.d (.sl [[dB 1,dU 258,dU 16777368,dU 0,dU 0,dI 0]])),.d (dI 2)]
def aqI:List AV:=Nn++[.d (dI 1000),.d (dI 2048),.d (dI 4096),.d (dI 4),.d (dU 65536),(.d (.sl (bS [108,97,116,101,-4,116,97,115,107,-4,98,111,111,109,-4]))),(.d (.sl [[dU 16777216,(.sl (bS [-24,5,-7,1,-9,1,-5,4,-103]))]])),(.d (.sl [[dB 1,dU 259,dU 16777368,dU 0,dU 0,dI 0]])),.d (dI 3)]
def aqJ:List AV:=Nn++[.d (dI 1000),.d (dI 2048),.d (dI 4096),.d (dI 4),.d (dU 65536),(.d (.sl (bS [108,97,116,101,-4,116,97,115,107,-4,98,111,111,109,-12]))),(.d (.sl [[dU 16777216,(.sl (bS [-24,5,-7,1,-9,1,-5,4,-7,24,0,1,-93]))]])),(.d (.sl [[dB 1,dU 260,dU 16777368,dU 0,dU 0,dI 0]])),.d (dI 4)]
def aqK:List AV:=Nn++[.d (dI 1000),.d (dI 2048),.d (dI 4096),.d (dI 4),.d (dU 65536),(.d (.sl (bS [108,97,116,101,-4,116,97,115,107,-4,98,111,111,109,-12]))),(.d (.sl [[dU 16777216,(.sl (bS [-24,5,-7,1,-9,1,-5,4,-7,24,0,1,-93]))]])),(.d (.sl [[dB 1,dU 261,dU 16777368,dU 0,dU 0,dI 0]])),.d (dI 5)]
def aqL:List AV:=Nn++[.d (dI 1000),.d (dI 2048),.d (dI 4096),.d (dI 4),.d (dU 65536),(.d (.sl (bS [108,97,116,101,-4,116,97,115,107,-4,98,111,111,109,-12]))),(.d (.sl [[dU 16777216,(.sl (bS [-24,5,-7,1,-9,1,-5,4,-7,24,0,1,-93]))]])),(.d (.sl [[dB 1,dU 262,dU 16777368,dU 0,dU 0,dI 0]])),.d (dI 6)]
def aqM:List AV:=Nn++[.d (dI 1000),.d (dI 2048),.d (dI 4096),.d (dI 4),.d (dU 65536),(.d (.sl (bS [108,97,116,101,-4,116,97,115,107,-4,98,111,111,109,-12]))),(.d (.sl [[dU 16777216,(.sl (bS [-24,5,-7,1,-9,1,-5,4,-7,24,0,1,-77,2,-15]))]])),(.d (.sl [[dB 1,dU 263,dU 16777368,dU 0,dU 0,dI 0]])),.d (dI 7)]
def aqN:List AV:=Nn++[.d (dI 1000),.d (dI 2048),.d (dI 4096),.d (dI 4),.d (dU 65536),(.d (.sl (bS [108,97,116,101,-4,116,97,115,107,-4,98,111,111,109,-28]))),(.d (.sl [[dU 16777216,(.sl (bS [-24,5,-7,1,-9,1,-5,4,-7,24,0,1,-53,32,0,1,-5,2,-7,2,-7,2,-15]))]])),(.d (.sl [[dB 1,dU 264,dU 16777368,dU 0,dU 0,dI 0]])),.d (dI 8)]
def aqO:List AV:=Nn++[.d (dI 1000),.d (dI 2048),.d (dI 4096),.d (dI 4),.d (dU 65536),(.d (.sl (bS [108,97,116,101,-4,116,97,115,107,-4,98,111,111,109,-52]))),(.d (.sl [[dU 16777216,(.sl (bS [-24,5,-7,1,-9,1,-5,4,-7,24,0,1,-53,32,0,1,-5,2,-7,2,-7,2,-7,48,0,1,-5]))]])),(.d (.sl [[dB 1,dU 265,dU 16777368,dU 0,dU 0,dI 0]])),.d (dI 9)]
def aqP:List AV:=Nn++[.d (dI 1000),.d (dI 2048),.d (dI 4096),.d (dI 4),.d (dU 65536),(.d (.sl (bS [108,97,116,101,-4,116,97,115,107,-4,98,111,111,109,-52]))),(.d (.sl [[dU 16777216,(.sl (bS [-24,5,-7,1,-9,1,-5,4,-7,24,0,1,-53,32,0,1,-5,2,-7,2,-7,2,-7,48,0,1,-5,2,-7]))]])),(.d (.sl [[dB 1,dU 266,dU 16777376,dU 0,dU 0,dI 0]])),.d (dI 10)]
def aws:List AV:=Nn++[.d (dI 1000),.d (dI 2048),.d (dI 4096),.d (dI 4),.d (dU 65536),(.d (.sl (bS [108,97,116,101,-4,116,97,115,107,-4,98,111,111,109,-52]))),(.d (.sl [[dU 16777216,(.sl (bS [-24,5,-7,1,-9,1,-5,4,-7,24,0,1,-53,32,0,1,-5,2,-7,2,-7,2,-7,48,0,1,-5]))],[dU 33554432,(.sl (bS [-24,2,-15]))]])),(.d (.sl [[dB 1,dU 267,dU 16777368,dU 0,dU 0,dI 0],[dB 1,dU 1024,dU 33554472,dU 0,dU 0,dI 0]])),.d (dI 11)]
def ls0:tG:=⟨10,[.agg ms0,.d (dI 0)],.fu [.agg ms1,.d (dB 0),.d (dI 0),.d (dI 0)]⟩
def ls1:tG:=⟨10,[.agg ms1,.d (dI 1)],.fu [.agg ms2,.d (dB 0),.d (dI 0),.d (dI 0)]⟩
def ls2:tG:=⟨10,[.agg ms2,.d (dI 2)],.fu [.agg ms3,.d (dB 0),.d (dI 0),.d (dI 0)]⟩
def ls3:tG:=⟨10,[.agg ms3,.d (dI 3)],.fu [.agg ms4,.d (dB 0),.d (dI 0),.d (dI 0)]⟩
def ls4:tG:=⟨10,[.agg ms4,.d (dI 4)],.fu [.agg ms5,.d (dB 0),.d (dI 0),.d (dI 0)]⟩
def ls5:tG:=⟨10,[.agg ms5,.d (dI 5)],.fu [.agg ms6,.d (dB 0),.d (dI 0),.d (dI 0)]⟩
def ls6:tG:=⟨10,[.agg ms6,.d (dI 6)],.fu [.agg ms7,.d (dB 0),.d (dI 0),.d (dI 0)]⟩
def ls7:tG:=⟨10,[.agg ms7,.d (dI 7)],.fu [.agg ms8,.d (dB 0),.d (dI 0),.d (dI 0)]⟩
def ls8:tG:=⟨10,[.agg ms8,.d (dI 8)],.fu [.agg ms9,.d (dB 0),.d (dI 0),.d (dI 0)]⟩
def ls9:tG:=⟨10,[.agg ms9,.d (dI 9)],.fu [.agg aqE,.d (dB 0),.d (dI 0),.d (dI 0)]⟩
def acW:tG:=⟨10,[.agg aqE,.d (dI 10)],.fu [.agg aqF,.d (dB 0),.d (dI 0),.d (dI 0)]⟩
def acX:tG:=⟨10,[.agg aqF,.d (dI 11)],.fu [.agg aiZ,.d (dB 0),.d (dI 0),.d (dI 0)]⟩
def acY:tG:=⟨10,[.agg aiZ,.d (dI 12)],.fu [.agg aiZ,.d (dB 3),.d (dI (-1)),.d (dI 0)]⟩
def acZ:tG:=⟨78,[.agg awr,.d (dI 0)],.fu [.agg aqG,.d (dB 0),.d (dI 0)]⟩
def ac1:tG:=⟨78,[.agg aqG,.d (dI 0)],.fu [.agg aqH,.d (dB 0),.d (dI 0)]⟩
def ac2:tG:=⟨78,[.agg aqH,.d (dI 0)],.fu [.agg aqI,.d (dB 0),.d (dI 0)]⟩
def ac3:tG:=⟨78,[.agg aqI,.d (dI 0)],.fu [.agg aqJ,.d (dB 0),.d (dI 0)]⟩
def ac4:tG:=⟨78,[.agg aqJ,.d (dI 0)],.fu [.agg aqK,.d (dB 0),.d (dI 0)]⟩
def ac5:tG:=⟨78,[.agg aqK,.d (dI 0)],.fu [.agg aqL,.d (dB 0),.d (dI 0)]⟩
def ac6:tG:=⟨78,[.agg aqL,.d (dI 0)],.fu [.agg aqM,.d (dB 0),.d (dI 0)]⟩
def ac7:tG:=⟨78,[.agg aqM,.d (dI 0)],.fu [.agg aqN,.d (dB 0),.d (dI 0)]⟩
def ac8:tG:=⟨78,[.agg aqN,.d (dI 0)],.fu [.agg aqO,.d (dB 0),.d (dI 0)]⟩
def ac9:tG:=⟨78,[.agg aqO,.d (dI 0)],.fu [.agg aqP,.d (dB 0),.d (dI 0)]⟩
def ada:tG:=⟨78,[.agg aqP,.d (dI 0)],.fu [.agg aws,.d (dB 0),.d (dI 0)]⟩
def awt:dG Tryz.prog ls0.f ls0.xs ls0.a:=dA (cV (CA 20000)) (by kernel_rfl) (by kernel_rfl)
def awu:dG Tryz.prog ls1.f ls1.xs ls1.a:=dA (cV (CA 20000)) (by kernel_rfl) (by kernel_rfl)
def awv:dG Tryz.prog ls2.f ls2.xs ls2.a:=dA (cV (CA 20000)) (by kernel_rfl) (by kernel_rfl)
def aww:dG Tryz.prog ls3.f ls3.xs ls3.a:=dA (cV (CA 20000)) (by kernel_rfl) (by kernel_rfl)
def awx:dG Tryz.prog ls4.f ls4.xs ls4.a:=dA (cV (CA 20000)) (by kernel_rfl) (by kernel_rfl)
def awy:dG Tryz.prog ls5.f ls5.xs ls5.a:=dA (cV (CA 20000)) (by kernel_rfl) (by kernel_rfl)
def awz:dG Tryz.prog ls6.f ls6.xs ls6.a:=dA (cV (CA 20000)) (by kernel_rfl) (by kernel_rfl)
def awA:dG Tryz.prog ls7.f ls7.xs ls7.a:=dA (cV (CA 20000)) (by kernel_rfl) (by kernel_rfl)
def awB:dG Tryz.prog ls8.f ls8.xs ls8.a:=dA (cV (CA 20000)) (by kernel_rfl) (by kernel_rfl)
def awC:dG Tryz.prog ls9.f ls9.xs ls9.a:=dA (cV (CA 20000)) (by kernel_rfl) (by kernel_rfl)
def aqQ:dG Tryz.prog acW.f acW.xs acW.a:=dA (cV (CA 20000)) (by kernel_rfl) (by kernel_rfl)
def aqR:dG Tryz.prog acX.f acX.xs acX.a:=dA (cV (CA 20000)) (by kernel_rfl) (by kernel_rfl)
def aqS:dG Tryz.prog acY.f acY.xs acY.a:=dA (cV (CA 20000)) (by kernel_rfl) (by kernel_rfl)
def aqT:dG Tryz.prog acZ.f acZ.xs acZ.a:=dA (cV (CA 20000)) (by kernel_rfl) (by kernel_rfl)
def aqU:dG Tryz.prog ac1.f ac1.xs ac1.a:=dA (cV (CA 20000)) (by kernel_rfl) (by kernel_rfl)
def aqV:dG Tryz.prog ac2.f ac2.xs ac2.a:=dA (cV (CA 20000)) (by kernel_rfl) (by kernel_rfl)
def aqW:dG Tryz.prog ac3.f ac3.xs ac3.a:=dA (cV (CA 20000)) (by kernel_rfl) (by kernel_rfl)
def aqX:dG Tryz.prog ac4.f ac4.xs ac4.a:=dA (cV (CA 20000)) (by kernel_rfl) (by kernel_rfl)
def aqY:dG Tryz.prog ac5.f ac5.xs ac5.a:=dA (cV (CA 20000)) (by kernel_rfl) (by kernel_rfl)
def aqZ:dG Tryz.prog ac6.f ac6.xs ac6.a:=dA (cV (CA 20000)) (by kernel_rfl) (by kernel_rfl)
def aq0:dG Tryz.prog ac7.f ac7.xs ac7.a:=dA (cV (CA 20000)) (by kernel_rfl) (by kernel_rfl)
def aq1:dG Tryz.prog ac8.f ac8.xs ac8.a:=dA (cV (CA 20000)) (by kernel_rfl) (by kernel_rfl)
def aq2:dG Tryz.prog ac9.f ac9.xs ac9.a:=dA (cV (CA 20000)) (by kernel_rfl) (by kernel_rfl)
def aq3:dG Tryz.prog ada.f ada.xs ada.a:=dA (cV (CA 20000)) (by kernel_rfl) (by kernel_rfl)
def lsA:List tG:=[ls0,ls1,ls2,ls3,ls4,ls5,ls6,ls7,ls8,ls9,acW,acX,acY,acZ,ac1,ac2,ac3,ac4,ac5,ac6,ac7,ac8,ac9,ada]
def aaa:∀k∈lsA,dG Tryz.prog k.f k.xs k.a:=by
 intro k hk;simp only[lsA,dl,dE,km]at hk;rcases hk with rfl|rfl|rfl|rfl|rfl|rfl|rfl|rfl|rfl|rfl|rfl|rfl|rfl|rfl|rfl|rfl|rfl|rfl|rfl|rfl|rfl|rfl|rfl|rfl;.exact awt
 .exact awu
 .exact awv
 .exact aww
 .exact awx
 .exact awy
 .exact awz
 .exact awA
 .exact awB
 .exact awC
 .exact aqQ
 .exact aqR
 .exact aqS
 .exact aqT
 .exact aqU
 .exact aqV
 .exact aqW
 .exact aqX
 .exact aqY
 .exact aqZ
 .exact aq0
 .exact aq1
 .exact aq2
 .exact aq3
end
end Go.Proofs.YtgdkmdochlhhlaaGreat
namespace Go.Proofs.YtgdkmdochlhhlaaGreat
set_option linter.unusedVariables false
open Go Go.bL Go.Sym
set_option maxRecDepth 100000
noncomputable section
def TB0:Tb:=⟨zR (15::bA) tqA,Nc (orA (lits lsA) (orA (lits liA) Nf))⟩
def awD(n:Nat):cD Tryz.prog (ga TB0 n):=lT (qy (xo (qz aaa) (xo (qz Fj) kO))) Ng Bp (rO (l:=cA) Ay aA (by kernel_rfl)) n
def aq4:acU (ga TB0 20000) 15 []=some (.d (.sc (.bool true))):=by kernel_rfl
def bB0(f:Nat)(l:List AV):Option AV:=match Nat.beq f 15,l with|true,[]=>some (.d (.sc (.bool true)))|_,_=>none
def ai0:∀f l a,bB0 f l=some a->dG Tryz.prog f l a:=λf l a h=>by
 unfold bB0 at h;split at h;.rename_i hf;have hf:=am hf;subst hf;cases h;exact dA (awD 20000) aq4 rfl
 .cases h
def TB1:Tb:=⟨zR (4::bA) tqA,vG (Nc bB0) (Nc (orA (lits lsA) (orA (lits liA) Nf)))⟩
def awF(n:Nat):cD Tryz.prog (ga TB1 n):=lT (JG (qy ai0) (qy (xo (qz aaa) (xo (qz Fj) kO)))) Ng Bp (rO (l:=cA) Ay aA (by kernel_rfl)) n
def aq5:acU (ga TB1 20000) 4 []=some (.d (.sc (.bool true))):=by kernel_rfl
def bB1(f:Nat)(l:List AV):Option AV:=match Nat.beq f 4,l with|true,[]=>some (.d (.sc (.bool true)))|_,_=>none
def ai1:∀f l a,bB1 f l=some a->dG Tryz.prog f l a:=λf l a h=>by
 unfold bB1 at h;split at h;.rename_i hf;have hf:=am hf;subst hf;cases h;exact dA (awF 20000) aq5 rfl
 .cases h
def TE:cD Tryz.prog Jj:=qy (o:=YC) ai1
end
end Go.Proofs.YtgdkmdochlhhlaaGreat
namespace Go.Proofs.YtgdkmdochlhhlaaGreat
open Go
set_option maxRecDepth 100000
def aq6:(Rows.schedDeadRow.wf (OpenSpec.ofChange Rows.schedDeadSpec))=true:=by kernel_rfl
def aq7:(laidOutB Tryz.pinned.checked.prog)=true:=by kernel_rfl
def aq8:(mapsRowed Tryz.pinned.checked.prog)=true:=by kernel_rfl
def aq9:(Tryz.f3.params.all (Tryz.pinned.checked.prog.readableRec ·))=true:=by kernel_rfl
def ara:(namedTie Tryz.pinned.checked.prog Rows.schedDeadRow.named Rows.schedDeadSpec.vars)=true:=by kernel_rfl
def arb:((Rows.schedDeadRow.stops==[]))=true:=by kernel_rfl
def arc:((Tryz.pinned.checked.prog.stops==[]))=true:=by kernel_rfl
def ard:((Rows.schedDeadRow.knobs==[]))=true:=by kernel_rfl
def arf:((Tryz.pinned.checked.prog.stopKnobs==[]))=true:=by kernel_rfl
def arh:((Rows.schedDeadRow.inPlace==Tryz.pinned.checked.prog.inPlace 3))=true:=by kernel_rfl
def ai2:((Rows.schedDeadRow.unfollowed==Tryz.pinned.checked.prog.unfollowed 3))=true:=by kernel_rfl
def ai3:((Rows.schedDeadRow.recurses==Tryz.pinned.checked.prog.recurses 3))=true:=by kernel_rfl
def ai4:((Rows.schedDeadRow.named==Tryz.pinned.checked.prog.varsNamed 3))=true:=by kernel_rfl
def ai5:((Rows.schedDeadRow.maps==(Tryz.f3.params.toList++Rows.schedDeadSpec.plain.varTypes Tryz.pinned.checked.prog).any (Tryz.pinned.checked.prog.mapsRec ·)))=true:=by kernel_rfl
def ai6:((Rows.schedDeadRow.ifaces==(Tryz.f3.params.toList++Rows.schedDeadSpec.plain.varTypes Tryz.pinned.checked.prog).any (Tryz.pinned.checked.prog.ifacesRec ·)))=true:=by kernel_rfl
def ai7:((Rows.schedDeadRow.mapsOut==Tryz.pinned.checked.prog.mapsAmong Tryz.f3.resultTypes.toList))=true:=by kernel_rfl
def ai8:((Rows.schedDeadRow.loops==(Tryz.f3.params.toList++Rows.schedDeadSpec.plain.varTypes Tryz.pinned.checked.prog).any (Tryz.pinned.checked.prog.loopsFrom ·)))=true:=by kernel_rfl
def ai9:((Rows.schedDeadRow.wideKeys==(Tryz.f3.params.toList++Rows.schedDeadSpec.plain.varTypes Tryz.pinned.checked.prog++Tryz.f3.resultTypes.toList).any (Tryz.pinned.checked.prog.wideKeysFrom ·)))=true:=by kernel_rfl
def aja:(Rows.schedDeadSpec.vars.all (Tryz.pinned.checked.prog.varReadable ·))=true:=by kernel_rfl
def ajb:(Tryz.f3.resultTypes.all (λt=>Tryz.pinned.checked.prog.readableRec t&&decide (t<Tryz.pinned.checked.prog.types.size)))=true:=by kernel_rfl
def ajc:((Rows.schedDeadRow.ifacesOut==Tryz.f3.resultTypes.toList.any (Tryz.pinned.checked.prog.ifacesRec ·)))=true:=by kernel_rfl
def ajd:((Rows.schedDeadRow.loopsOut==Tryz.f3.resultTypes.toList.any (Tryz.pinned.checked.prog.loopsFrom ·)))=true:=by kernel_rfl
def aje:((Rows.schedDeadRow.plainKeys==Tryz.pinned.checked.prog.plainKeys))=true:=by kernel_rfl
def ajf:(Rows.schedDeadRow.shortTexts.isNone)=true:=by kernel_rfl
def ajg:(Tryz.pinned.checked.prog.stopsHeard)=true:=by kernel_rfl
def ajh:(Tryz.pinned.checked.prog.mayEnter)=true:=by kernel_rfl
def aji:((Rows.schedDeadRow.lifted==Tryz.pinned.checked.prog.liftsFinal))=true:=by kernel_rfl
def ajj:((Tryz.pinned.checked.prog.make==some Rows.schedDeadRow.make))=true:=by kernel_rfl
def ajk:((Rows.schedDeadRow.kinds==(if Rows.schedDeadRow.domain.isEmpty then[]else Tryz.f3.params.toList.map λt=>match Tryz.pinned.checked.prog.underlying t with|some (.int k)=>some k|_=>none)))=true:=by kernel_rfl
def ajl:((Rows.schedDeadRow.pinned==Rows.schedDeadRow.pinnedBy))=true:=by kernel_rfl
def ajm:((Rows.schedDeadRow.veiled==(Tryz.f3.params.toList++Rows.schedDeadSpec.plain.varTypes Tryz.pinned.checked.prog++Tryz.f3.resultTypes.toList).any (Tryz.pinned.checked.prog.veiledRec ·)))=true:=by kernel_rfl
def ajn:(Rows.schedDeadRow.veiledFits Tryz.pinned.checked.prog Tryz.f3.params.toList (Tryz.f3.params.toList++Rows.schedDeadSpec.plain.varTypes Tryz.pinned.checked.prog++Tryz.f3.resultTypes.toList))=true:=by kernel_rfl
def both{a b:Bool}(h:a=true)(k:b=true):(a&&b)=true:=by rw[h,k];rfl
def adb:joinedFacts Tryz.pinned.checked.prog 3 Tryz.f3 Rows.schedDeadSpec Rows.schedDeadRow=true:=by unfold joinedFacts;exact both (both (both (both (both (both (both (both (both (both (both (both (both (both (both (both (both (both (both (both (both (both (both (both (both (both (both (both (both (both (both (aq6) aq7) aq8) aq9) ara) arb) arc) ard) arf) arh) ai2) ai3) ai4) ai5) ai6) ai7) ai8) ai9) aja) ajb) ajc) ajd) aje) ajf) ajg) ajh) aji) ajj) ajk) ajl) ajm) ajn
end Go.Proofs.YtgdkmdochlhhlaaGreat
