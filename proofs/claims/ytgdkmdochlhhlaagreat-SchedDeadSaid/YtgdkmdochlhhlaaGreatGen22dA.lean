/- Parts of the proof. -/
import Derived.Shelf.Lays
import Derived.Shelf.LaysM
import Derived.Shelf.LaysC
import Derived.Shelf.Sort.Plain
import Derived.Shelf.Slices.CompactI
import Derived.Ground.NamesProg
import Derived.Ground.Names2Prog
import Derived.Test.YtgdkmdochlhhlaaGreatRows
import Derived.Test.YtgdkmdochlhhlaaGreatChecked
import Derived.Test.YtgdkmdochlhhlaaGreatEngCompact
import Derived.KernelRfl
import Derived.ProofKit
set_option linter.unusedVariables false
set_option linter.unusedSimpArgs false
set_option linter.defProp false
namespace Go.Proofs
open Go.Shelf
def Tryz.LG:Go.Shelf.Ren:=⟨λ|189=>372|125=>382|257=>381|128=>393|129=>394|294=>384|295=>385|296=>386|297=>387|298=>388|299=>389|216=>390|300=>391|301=>392|328=>395|329=>396|330=>397|331=>398|332=>399|215=>400|343=>401|n=>n,λ|28=>40|3=>3|46=>218|0=>0|51=>470|53=>29|4=>4|183=>464|182=>463|131=>293|5=>5|9=>9|218=>472|222=>476|228=>478|229=>158|n=>n,λ|n=>n⟩
def Tryz.abE:Go.Proofs.Lays.n189 Tryz.prog Tryz.LG:={
 mixed:=by kernel_rfl
 f125:=Tryz.func382.trans (kv some (by kernel_rfl))
 f128:=Tryz.func393.trans (kv some (by kernel_rfl))
 f129:=Tryz.func394.trans (kv some (by kernel_rfl))
 f189:=Tryz.func372.trans (kv some (by kernel_rfl))
 f215:=Tryz.func400.trans (kv some (by kernel_rfl))
 f216:=Tryz.func390.trans (kv some (by kernel_rfl))
 f257:=Tryz.func381.trans (kv some (by kernel_rfl))
 f294:=Tryz.func384.trans (kv some (by kernel_rfl))
 f295:=Tryz.func385.trans (kv some (by kernel_rfl))
 f296:=Tryz.func386.trans (kv some (by kernel_rfl))
 f297:=Tryz.func387.trans (kv some (by kernel_rfl))
 f298:=Tryz.func388.trans (kv some (by kernel_rfl))
 f299:=Tryz.func389.trans (kv some (by kernel_rfl))
 f300:=Tryz.func391.trans (kv some (by kernel_rfl))
 f301:=Tryz.func392.trans (kv some (by kernel_rfl))
 f328:=Tryz.func395.trans (kv some (by kernel_rfl))
 f329:=Tryz.func396.trans (kv some (by kernel_rfl))
 f330:=Tryz.func397.trans (kv some (by kernel_rfl))
 f331:=Tryz.func398.trans (kv some (by kernel_rfl))
 f332:=Tryz.func399.trans (kv some (by kernel_rfl))
 f343:=Tryz.func401.trans (kv some (by kernel_rfl))
 t0:=Tryz.underlying0
 a0:=Tryz.isAgg0
 z0:=Tryz.sizeOf0
 v0:=Tryz.zeroValue0
 t3:=Tryz.underlying3
 a3:=Tryz.isAgg3
 z3:=Tryz.sizeOf3
 v3:=Tryz.zeroValue3
 t4:=Tryz.underlying4
 a4:=Tryz.isAgg4
 z4:=Tryz.sizeOf4
 v4:=Tryz.zeroValue4
 t5:=Tryz.underlying5
 a5:=Tryz.isAgg5
 z5:=Tryz.sizeOf5
 v5:=Tryz.zeroValue5
 t9:=Tryz.underlying9
 a9:=Tryz.isAgg9
 z9:=Tryz.sizeOf9
 v9:=Tryz.zeroValue9
 t28:=Tryz.underlying40
 a28:=Tryz.isAgg40
 z28:=Tryz.sizeOf40
 v28:=Tryz.zeroValue40
 t46:=Tryz.underlying218
 a46:=Tryz.isAgg218
 z46:=Tryz.sizeOf218
 v46:=Tryz.zeroValue218
 t51:=Tryz.underlying470
 a51:=Tryz.isAgg470
 z51:=Tryz.sizeOf470
 v51:=Tryz.zeroValue470
 t53:=Tryz.underlying29
 a53:=Tryz.isAgg29
 z53:=Tryz.sizeOf29
 v53:=Tryz.zeroValue29
 t131:=Tryz.underlying293
 a131:=Tryz.isAgg293
 z131:=Tryz.sizeOf293
 v131:=Tryz.zeroValue293
 t182:=Tryz.underlying463
 a182:=Tryz.isAgg463
 z182:=Tryz.sizeOf463
 v182:=Tryz.zeroValue463
 t183:=Tryz.underlying464
 a183:=Tryz.isAgg464
 z183:=Tryz.sizeOf464
 v183:=Tryz.zeroValue464
 t218:=Tryz.underlying472
 a218:=Tryz.isAgg472
 z218:=Tryz.sizeOf472
 v218:=Tryz.zeroValue472
 t222:=Tryz.underlying476
 a222:=Tryz.isAgg476
 z222:=Tryz.sizeOf476
 v222:=Tryz.zeroValue476
 t228:=Tryz.underlying478
 a228:=Tryz.isAgg478
 z228:=Tryz.sizeOf478
 v228:=Tryz.zeroValue478
 t229:=Tryz.underlying158
 a229:=Tryz.isAgg158
 z229:=Tryz.sizeOf158
 v229:=Tryz.zeroValue158}
def Tryz.Ov:Go.Shelf.Ren:=⟨λ|20=>373|n=>n,λ|22=>40|3=>3|4=>4|0=>0|n=>n,λ|n=>n⟩
def Tryz.afR:Go.Proofs.Lays2.n20 Tryz.prog Tryz.Ov:={
 mixed:=by kernel_rfl
 f20:=Tryz.func373.trans (kv some (by kernel_rfl))
 t0:=Tryz.underlying0
 a0:=Tryz.isAgg0
 z0:=Tryz.sizeOf0
 v0:=Tryz.zeroValue0
 t3:=Tryz.underlying3
 a3:=Tryz.isAgg3
 z3:=Tryz.sizeOf3
 v3:=Tryz.zeroValue3
 t4:=Tryz.underlying4
 a4:=Tryz.isAgg4
 z4:=Tryz.sizeOf4
 v4:=Tryz.zeroValue4
 t22:=Tryz.underlying40
 a22:=Tryz.isAgg40
 z22:=Tryz.sizeOf40
 v22:=Tryz.zeroValue40
 i3:=by kernel_rfl}
end Go.Proofs
namespace Go.Sym
open Go Go.bL
noncomputable section
def Vr(sz:Nat):qA:=⟨1,9,[.t 2],(.seq (.region [⟨(some 2),.JS (.c (.own [] .full)),none,0,0⟩] false) (.seq (.region [⟨(some 3),.JS (.t 0),none,0,0⟩,⟨(some 4),.JS (.t 0),none,0,0⟩,⟨(some 5),.len (.t 4),none,0,0⟩,⟨(some 6),.JS (.t 0),none,0,0⟩,⟨(some 7),.len (.t 6),none,0,0⟩,⟨(some 8),.slice sz (.t 3) none (some (.t 5)) (some (.t 7)),none,0,0⟩,⟨(some 2),.JS (.t 8),none,0,0⟩] false) .ret)),false⟩
def afS(a:AV)(n:Nat):St:={slots:=n9 (n9 (n9 (n9 (n9 (n9 (eA 0 [a] .lf) (some 2) (.own [] .full)) (some 3) a) (some 4) a) (some 5) (qR n)) (some 6) a) (some 7) (qR n),mem:=[.lf],aI:=.lf,nv:=8}
def akS(a:AV)(n:Nat)(call:bL.Call)(sh:Nat->Bool)(o:Option AV):Option (AV×List (Tr bu)×Tr Unit×Nat):=match(match Option.map (λs'=>(AX.normal,s')) (match o.bind fy.pure with|none=>none|some e=>jB call sh 1 6 [⟨(some 2),.JS (.t 8),none,0,0⟩] ((afS a n).app (some 8) e))with|some (.normal,s')=>exec call sh 47 .ret s'|r=>r)with|some (.normal,s)|some (.ret,s)=>(ke s [.t 2]).map λvs=>(jv vs,s.mem,s.aI,s.nv)|_=>none
def zT{T:Tb}{f:Nat}{fn:qA}(hf:T.fs f=some fn)(n:Nat)(args:List AV)(mem:List (Tr bu))(aI:Tr Unit)(nv:Nat):ga T (n+1) f args mem aI nv=(match Nat.beq args.length fn.np with|false=>none|true=>match exec (ga T n) (λg=>((T.fs g).map (·.sh)).getD false) n fn.body {slots:=eA 0 args .lf,mem,aI,nv}with|some (.normal,s)|some (.ret,s)=>(ke s fn.res).map λvs=>(jv vs,s.mem,s.aI,s.nv)|_=>none):=by simp[ga,hf];rfl
def Vs{T:Tb}{f sz:Nat}(hf:T.fs f=some (Vr sz))(els:List (List D))(a:AV)(hs:els.all (λe=>e.length==sz)=true)(h:a=.d (.sl els)\/∃o,o≠.bD/\a=.own els o):∃cm ts nv,ga T 50 f [a] [.lf] .lf 0=some (.own els .full,cm,ts,nv):=by
 have go:∀a:AV,ga T 50 f [a] [.lf] .lf 0=akS a els.length (ga T 49) (λg=>((T.fs g).map (·.sh)).getD false) (fZ sz a 0 (some els.length) (some els.length))->fZ sz a 0 (some els.length) (some els.length)=some (.own els .full)->∃cm ts nv,ga T 50 f [a] [.lf] .lf 0=some (.own els .full,cm,ts,nv):=by intro a h1 h2;rw[h2]at h1;exact⟨_,_,_,h1⟩
 rcases h with rfl|⟨o,ho,rfl⟩;.refine go _ ?_ (by simp[fZ,hs]);rw[show(50:Nat)=49+1from rfl,zT hf];kernel_rfl
 .cases o with|bD=>exact absurd rfl ho|full=>refine go _ ?_ (by simp[fZ,hs]);rw[show(50:Nat)=49+1from rfl,zT hf];kernel_rfl|cU=>refine go _ ?_ (by simp[fZ,hs]);rw[show(50:Nat)=49+1from rfl,zT hf];kernel_rfl
def Cj(t:Ty):Callee:=⟨[.c (.sl t .d)],[.sl t],[(false,[.sl t .full])],[.sl t],65535,λl=>some l⟩
def Ox{T:Tb}{f:Nat}{t:Ty}(hf:T.fs f=some (Vr t.size)):rD T f (Cj t):=by refineλl y hy=>⟨[.c (.sl t l .d)],rfl,λxs has=>?_⟩;cases hy;match xs,has with
 |[a],ha=>
  obtain⟨cm,ts,nv,hr⟩:=Vs hf (bF t l) a (iA t l) ha.1;refine⟨50,_,cm,ts,nv,λm hm=>II 50 m hm _ _ _ _ _ _ hr,λws yo=>⟨λh=>absurd rfl h,λrow lv sl aq p Fq us w _ Hq _ hp _ hw=>?_⟩⟩;have:ws=[(false,[.sl t l .full])]:=by have:nS (Cj t).res (unpack (Cj t).tr l)=some ([(false,[.sl t l .full])],[]):=rfl<;>grind
  subst this;cases hp;have hw:w=.c (.sl t l .full):=by cases hw;grind
  subst hw;have Hq:row%65536=65535:=Hq;refine⟨.own (bF t l) .full,?_,λ_ _ _ _=>rfl⟩;simp only[gY,lH,bG,Hq,io,show Nat.beq 1 65535=false from rfl,show Nat.beq 65535 65535=true from rfl,pB];rfl
end
end Go.Sym
namespace Go.Proofs.YtgdkmdochlhhlaaGreat
open Go Go.bL Go.Sym
def md:Nat->bL.Mode:=λf=>match f with|38=>⟨[(50,1)],true⟩|191=>⟨[(2,65540),(19,1),(3,65540),(12,1)],false⟩|188=>⟨[(2,65540),(5,65537)],false⟩|190=>⟨[(6,65537)],false⟩|189=>⟨[(7,65537)],false⟩|194=>⟨[(9,65537)],false⟩|126=>⟨[(13,65537)],false⟩|174=>⟨[(10,1)],false⟩|176=>⟨[(27,1),(24,1)],false⟩|177=>⟨[(20,1)],false⟩|120=>⟨[(11,458755)],false⟩|80=>⟨[(19,10)],false⟩|196=>⟨[(8,1),(5,1)],false⟩|129=>⟨[(9,65538),(19,1)],false⟩|84=>⟨[(35,65538)],false⟩|46=>⟨[(18,65538)],false⟩|73=>⟨[(26,1)],false⟩|101=>⟨[],true⟩|57=>⟨[],true⟩|303=>⟨[(27,2),(44,2),(65,2),(104,2)],false⟩|304=>⟨[(3,6),(17,1)],false⟩|219=>⟨[(13,1)],false⟩|218=>⟨[(9,1)],false⟩|376=>⟨[],true⟩|383=>⟨[],true⟩|375=>⟨[],true⟩|351=>⟨[],true⟩|358=>⟨[(6,1501954053)],true⟩|297=>⟨[(2,65540)],false⟩|209=>⟨[],true⟩|210=>⟨[],true⟩|296=>⟨[],true⟩|208=>⟨[],true⟩|300=>⟨[(20,65537)],false⟩|211=>⟨[],true⟩|273=>⟨[],true⟩|347=>⟨[(28,1)],false⟩|272=>⟨[(24,3),(40,1),(10,1)],true⟩|197=>⟨[(13,1)],false⟩|202=>⟨[(2,65540),(38,1)],false⟩|198=>⟨[(13,65537)],false⟩|279=>⟨[(6,2)],true⟩|278=>⟨[],true⟩|281=>⟨[(6,2)],true⟩|282=>⟨[(11,2)],false⟩|349=>⟨[(6,2)],true⟩|199=>⟨[(37,2),(86,2),(119,2),(126,2),(133,2),(139,2),(152,2),(165,2),(182,2),(218,2)],false⟩|285=>⟨[(19,131071)],false⟩|200=>⟨[(45,3),(105,1),(28,1),(25,1),(91,1),(31,1)],false⟩|290=>⟨[],true⟩|201=>⟨[(74,1),(39,1)],false⟩|92=>⟨[],true⟩|205=>⟨[(22,1)],false⟩|135=>⟨[(42,65538)],false⟩|136=>⟨[(37,1)],false⟩|214=>⟨[],true⟩|213=>⟨[],true⟩|10=>⟨[(42,1)],false⟩|_=>⟨[],false⟩
def dy:Nat->Option TypeId:=λf=>match f with|29=>some 30|30=>some 33|31=>some 34|372=>some 1000000|373=>some 1000001|_=>none
def abF:List Nat:=[118,77,38,346,267,268,265,345,266,186,123,180,122,249,250,311,241,269,187,125,191,188,190,189,192,270,193,194,126,79,173,242,174,178,312,243,313,314,315,316,317,318,244,175,319,246,76,179,245,176,247,248,177,119,120,115,116,117,66,80,42,17,45,19,127,195,128,196,129,84,46,21,121,73,22,359,101,57,377,360,356,303,304,217,219,218,234,163,376,383,375,357,351,352,353,354,355,292,293,291,294,301,212,295,207,358,297,209,210,296,208,298,299,300,211,137,97,271,273,347,272,197,202,274,275,276,198,277,374,348,280,279,278,281,282,283,349,284,199,350,155,288,285,286,287,200,289,290,201,203,130,131,89,50,56,58,28,90,51,132,133,134,91,52,92,93,204,302,215,205,135,206,140,136,94,53,95,54,96,98,143,138,214,213,139,99,216,141,142,100,55,25,27,26,9,10,81,43,18,82,83,44,20,23,47,85,48,86,87,88,49,24,6,8,41,16,5,7,65,33,34,35,11,3]
@[irreducible]noncomputable def tq(f:Nat):qA:=(Fp Tryz.prog dy md f).getD default
noncomputable def tmq(E:ah)(i f:Nat)(T:bt)(O:bn):Nat->(td T.tys).den->Option (qg O).den:=lp E 0 i (tq f) i T O
noncomputable def afT:Nat->Option qA:=zR abF tq
noncomputable def bQ(A:Go.bL.Call):Tb:=⟨afT,A⟩
def akT(f:Nat):tq f=(Fp Tryz.prog dy md f).getD default:=by kernel_rfl
set_option maxRecDepth 100000in theorem abG:abF.all (λf=>(Fp Tryz.prog dy md f).isSome)=true:=by kernel_rfl
set_option maxRecDepth 100000in theorem abH:abF.all (LD Tryz.prog dy md abF)=true:=by kernel_rfl
def adL:RG Tryz.prog dy md afT:=Qv akT abG abH
def abI:kA Tryz.prog 29 30:=⟨λ_ _=>⟨_,Tryz.func29,by kernel_rfl,by kernel_rfl,by kernel_rfl,by kernel_rfl⟩,λh=>absurd h (by decide),λh=>absurd h (by decide)⟩
def abJ:kA Tryz.prog 30 33:=⟨λ_ _=>⟨_,Tryz.func30,by kernel_rfl,by kernel_rfl,by kernel_rfl,by kernel_rfl⟩,λh=>absurd h (by decide),λh=>absurd h (by decide)⟩
def abK:kA Tryz.prog 31 34:=⟨λ_ _=>⟨_,Tryz.func31,by kernel_rfl,by kernel_rfl,by kernel_rfl,by kernel_rfl⟩,λh=>absurd h (by decide),λh=>absurd h (by decide)⟩
def Vt:kA Tryz.prog 372 1000000:=⟨λh=>absurd rfl h,λ_=>Sh Tryz.abE ⟨_,Tryz.func372,by kernel_rfl,by kernel_rfl⟩,λh=>absurd h (by decide)⟩
def Vu:kA Tryz.prog 373 1000001:=⟨λ_ h=>absurd rfl h,λh=>absurd h (by decide),λ_=>Jd Tryz.afR ⟨_,Tryz.func373,by kernel_rfl,by kernel_rfl⟩⟩
def Bp:∀f T,dy f=some T->kA Tryz.prog f T:=by
 intro f T h;unfold dy at h;split at h;.injection h with h;subst h;exact abI
 .injection h with h;subst h;exact abJ
 .injection h with h;subst h;exact abK
 .injection h with h;subst h;exact Vt
 .injection h with h;subst h;exact Vu
 .cases h
end Go.Proofs.YtgdkmdochlhhlaaGreat
namespace Go.Proofs.YtgdkmdochlhhlaaGreat
set_option linter.unusedVariables false
open Go Go.bL Go.Sym
noncomputable section
structure Evq where
 E:ah
 ok:∀A,az (bQ A) E
structure Ewq where
 b:Evq
 f:Nat
 s:bW
 v:Evq
 T:bt
 O:bn
 q:((td T.tys).den->Option (qg O).den)->(td T.tys).den->Option (qg O).den
def Evq.on(e:Evq)(f:Nat)(s:bW):Ewq:=⟨e,f,s,⟨e.E.on s,λA=>(e.ok A).on s⟩,tm [] [] [] 1 [] 0,[],λ_ _=>none⟩
def Ewq.L(w:Ewq)(N c i g t:Nat)(T:bt)(O:bn):Ewq:=⟨w.b,w.f,w.s,⟨w.v.E.aa N c i T O,λA=>(w.v.ok A).aa N c i T O⟩,T,O,Dv w.v.E Hu c i (afP (tq g) t) T O⟩
def Ewq.l(w:Ewq)(N t:Nat)(T:bt)(O:bn):Ewq:=w.L N 0 t w.f t T O
def Ewq.p(w:Ewq)(F:(td w.s.ta).den->Option (td w.s.tr).den)(e:F=w.v.E.fn w.f w.s:=by kernel_rfl):Evq:=⟨w.b.E.put w.f w.s F,λA=>(w.b.ok A).put (w.v.ok A) w.f w.s F e⟩
abbrev lpT(w:Ewq)(f:Nat->(td w.T.tys).den->Option (qg w.O).den):Prop:=∀k,f k=Qb w.q k
def lpI{w:Ewq}{f:Nat->(td w.T.tys).den->Option (qg w.O).den}(h:∀k,(f 0,f (k+1))=(λ_=>none,w.q (f k)):=by intro k;kernel_rfl):lpT w f|0=>congrArg Prod.fst (h 0)|k+1=>by have e:f (k+1)=w.q (f k):=congrArg Prod.snd (h k);rw[e,lpI h k];rfl
def lpJ{w:Ewq}{f:Nat->(td w.T.tys).den->Option (qg w.O).den}(h:∀k,f (k+1)=w.q (f k))(g:f 0=λ_=>none:=by kernel_rfl):lpT w f|0=>g|k+1=>by rw[h,lpJ h g k];rfl
variable(A:Go.bL.Call)(N:Nat)
@[reducible]def dh:Ty:=(.prod .str (.int .i64))
abbrev Field:Type:=(List UInt8)×Int
@[reducible]def fo:Ty:=(.prod (.int .i64) (.int .i64))
abbrev pK:Type:=Int×Int
@[reducible]def iN:Ty:=(.prod (.int .i64) (.int .u64))
abbrev fA:Type:=Int×Int
@[reducible]def bp:Ty:=(.prod (.int .u64) (.sl (.int .u8)))
abbrev Region:Type:=Int×tmI
@[reducible]def sx:Ty:=(.prod (.int .i64) (.prod (.int .i64) (.prod .bool .bool)))
@[reducible]def bf:Ty:=(.prod (.int .u8) (.prod (.int .i64) fo))
abbrev Instr:Type:=Int×(Int×pK)
@[reducible]def Ck:Ty:=(.prod (.int .i64) (.prod (.int .i64) fo))
@[reducible]def Bq:Ty:=(.prod (.int .u64) (.prod (.int .i64) (.prod (.int .i64) (.prod (.int .u64) (.int .u64)))))
abbrev LH:Type:=Int×(Int×(Int×(Int×Int)))
@[reducible]def Je:Ty:=(.prod (.sl (.int .i64)) Ck)
@[reducible]def bK:Ty:=(.prod (.int .u8) (.prod (.int .i64) (.prod (.int .i64) (.sl dh))))
abbrev aB:Type:=Int×(Int×(Int×List Field))
@[reducible]def eG:Ty:=(.prod (.int .u8) (.prod (.int .u64) (.prod (.int .u64) (.prod (.int .u64) (.prod (.int .u64) (.int .i64))))))
abbrev bY:Type:=Int×(Int×(Int×(Int×(Int×Int))))
@[reducible]def abL:Ty:=(.prod (.sl iN) (.prod (.sl iN) fo))
@[reducible]def dQ:Ty:=(.prod .str (.prod (.int .i64) (.prod (.int .i64) (.prod (.sl dh) (.prod (.sl bf) (.prod (.sl iN) (.sl iN)))))))
abbrev Func:Type:=(List UInt8)×(Int×(Int×(List Field×(List Instr×(List fA×List fA)))))
@[reducible]def aW:Ty:=(.prod (.sl bK) (.prod (.sl .str) (.sl dQ)))
abbrev akU:Type:=(List aB)×(List (List UInt8)×List Func)
@[reducible]def bM:Ty:=(.prod aW dQ)
abbrev function:Type:=akU×Func
@[reducible]def eZ:Ty:=(.prod aW (.prod Ck (.prod bp (.prod (.sl bp) (.prod (.sl eG) (.int .i64))))))
abbrev abM:Type:=Int×Int×Bool×Bool
abbrev afU(α:Type):Type:=Int×Int×Bool×Bool×α
abbrev iO:Type:=Int×Int×Int×Int
abbrev Oy(α:Type):Type:=Int×Int×Int×Int×α
abbrev Cl:Type:=Int×Int×Int×Int
abbrev vz(α:Type):Type:=Int×Int×Int×Int×α
abbrev Cm:Type:=tmI×Int×Int×Int×Int
abbrev zU:Type:=Int×Int×Int×(List Field)
abbrev afV(α:Type):Type:=Int×Int×Int×List Field×α
abbrev LI:Type:=Int×Int×Int×Int×Int×Int
abbrev Qw:Type:=(List fA)×List fA×Int×Int
abbrev ic:Type:=(List UInt8)×Int×Int×List Field×List Instr×List fA×(List fA)
abbrev akV(α:Type):Type:=(List UInt8)×Int×Int×List Field×List Instr×List fA×List fA×α
abbrev cZ:Type:=(List aB)×List (List UInt8)×(List Func)
abbrev bT(α:Type):Type:=(List aB)×List (List UInt8)×List Func×α
abbrev dS:Type:=(List aB)×List (List UInt8)×List Func×List UInt8×Int×Int×List Field×List Instr×List fA×(List fA)
abbrev eg(α:Type):Type:=(List aB)×List (List UInt8)×List Func×List UInt8×Int×Int×List Field×List Instr×List fA×List fA×α
abbrev kE:Type:=(List aB)×List (List UInt8)×List Func×Int×Int×Int×Int×Int×tmI×List Region×List bY×Int
abbrev rF(α:Type):Type:=(List aB)×List (List UInt8)×List Func×Int×Int×Int×Int×Int×tmI×List Region×List bY×Int×α
def Gz(_:Nat):Evq:=⟨ah.base afT (lk []) (lk []) (lk []) (lkU []) (lk []),λA=>abC ..⟩
def Vv:=(Gz N).on 118 ⟨[.c (.sl .U .bD)],[tmf [.D iN]],0,[(0,8,24,.bool)],[],[(0,32,iN)],[]⟩
def s6(N:Nat):Nat->tmI×List fA×Int->Option (List fA)|0,_=>none|k+1,(b,c,a)=>cond (a<b.length) ((cond (a==0) (some true) ((idx b a).bind λd=>(idx b (av (a-1))).bind λe=>some (d !=e))).bind λf=>cond f ((idx b a).bind λg=>aK (room (c.length+1) 16) (s6 N k (b,(c++[(a,g)]),(av (a+1))))) (s6 N k (b,c,(av (a+1))))) c
def atf:=(Vv N).l N 4 (tmv [(0,.c (.sl .U .bD)),(3,.A iN 0),(4,.I)] 0 1) [(.exit 0,tmv [(3,.A iN 0)] 0 1)]
theorem WH:lpT (atf N) (s6 N):=lpI
def LJ:tmI->Option (List fA)|a=>(s6 N N (a,[],0)).bind λb=>b
def afX:=(atf N).p (LJ N) (by delta LJ;rw[WH N N];kernel_rfl)
def adM:=(afX N).on 77 ⟨[.c (.sl bK .bD)],[tmf [.D bK]],0,[],[],[(0,16,dh),(0,26,bK)],[]⟩
def Ea(N:Nat):Nat->List aB×List aB×Int->Option (List aB)|0,_=>none|k+1,(a,c,b)=>cond (b<a.length) ((idx a b).bind λd=>(idx a b).bind λe=>aK (room (0+e.2.2.2.length) 24) (aK (room (c.length+1) 48) (Ea N k (a,(c++[(d.1,d.2.1,d.2.2.1,([]++e.2.2.2))]),(av (b+1)))))) c
def aw8:=(adM N).l N 4 (tmv [(0,.c (.sl bK .bD)),(3,.A bK 0),(4,.I)] 0 1) [(.exit 0,tmv [(3,.A bK 0)] 0 1)]
theorem WI:lpT (aw8 N) (Ea N):=lpI
def F77:List aB->Option (List aB)|a=>(Ea N N (a,[],0)).bind λb=>b
def G77:=(aw8 N).p (F77 N) (by delta F77;rw[WI N N];kernel_rfl)
def Sj(N:Nat):Int->Option Bool|a=>(cond (a>=97) (cond (a<=122) (some true) (cond (a>=65) (some (decide (a<=90))) (some false))) (cond (a>=65) (some (decide (a<=90))) (some false))).bind λb=>b
def afY:=((G77 N).on 346 ⟨[.B],[tmf [.bool]],0,[(0,1,2,.bool)],[],[],[]⟩).p (Sj N)
def Vw:=(afY N).on 267 ⟨[.T],[tmf [.bool]],0,[(0,1,17,.bool),(0,10,40,.bool)],[],[],[]⟩
def Eb:Nat->List UInt8×Int->Option (Bool⊕Unit)|0,_=>none|k+1,(a,b)=>cond (b<a.length) (((idx a b).bind λc5=>(Sj N (c5.toNat:Int)).bind λc=>cond (!c) ((idx a b).bind λc7=>cond ((c7.toNat:Int)<48) (some true) ((idx a b).bind λc8=>some (decide ((c8.toNat:Int)>57)))) (some false)).bind λd=>cond d (some (Sum.inl false)) (Eb k (a,(av (b+1))))) (some (Sum.inr ()))
def ath:=(Vw N).l N 6 (tmn [(0,.T),(3,.I)]) [tmr [(2,.Q)],tmx]
theorem WP:lpT (ath N) (Eb N):=lpI
def Sk:List UInt8->Option Bool|a=>(cond ((a.length:Int)<1) (some true) (cond ((a.length:Int)>16) (some true) ((idx a 0).bind λc0=>(Sj N (c0.toNat:Int)).bind λb=>some (!b)))).bind λc=>cond c false ((Eb N N (a,0)).bind λd=>match d with|.inl e=>e|.inr f=>true)
def af0:=(ath N).p (Sk N) (by delta Sk;rw[WP N N];kernel_rfl)
def Vx:=(af0 N).on 268 (sg [.c (.sl dh .bD),.I] [tmf [.bool]])
def Ec(N:Nat):Nat->List Field×Int×Int->Option (Bool⊕(List Field×Int))|0,_=>none|k+1,(a,b,c)=>cond (c<b) ((idx a c).bind λd=>(idx a b).bind λe=>cond (d.1==e.1) (some (Sum.inl false)) (Ec N k (a,b,(av (c+1))))) (some (Sum.inr (a,b)))
def Vy:=(Vx N).l N 15 (tmn [(0,.c (.sl dh .bD)),(5,.I),(6,.I)]) [tmr [(4,.Q)],(.exit 2,tmn [(0,.c (.sl dh .bD)),(5,.I)])]
theorem W2:lpT (Vy N) (Ec N):=lpI
def s7:Nat->List Field×Int->Option (Bool⊕Unit)|0,_=>none|k+1,(a,b)=>cond (b<a.length) ((idx a b).bind λd=>(Sk N d.1).bind λe=>cond (!e) (some (Sum.inl false)) ((Ec N N (a,b,0)).bind λf=>match f with|.inl g=>some (Sum.inl g)|.inr c=>s7 k (c.1,(av (c.2+1))))) (some (Sum.inr ()))
def ati:=(Vy N).l N 6 (tmn [(0,.c (.sl dh .bD)),(5,.I)]) [tmr [(4,.Q)],tmx]
theorem W3:lpT (ati N) (s7 N):=lpJ λk=>funext λ⟨a,b⟩=>by rw[s7,W2 N N];kernel_rfl
def Sl:List Field×Int->Option Bool|(a,b)=>cond ((a.length:Int)>b) false ((s7 N N (a,0)).bind λc=>match c with|.inl d=>d|.inr e=>true)
def af2:=(ati N).p (Sl N) (by delta Sl;rw[W3 N N];kernel_rfl)
def Vz:=(af2 N).on 265 ⟨[.c (.sl bK .bD),.I],[tmf [.bool]],0,[(0,7,13,.bool),(0,5,13,.bool),(0,10,4,.bool),(0,12,31,.bool),(0,15,4,.bool),(0,18,4,.bool),(0,27,107,.bool),(0,31,4,.bool)],[],[],[]⟩
def s8(N:Nat):Nat->Int×Int×zU->Option (Bool⊕zU)|0,_=>none|k+1,(c,b,d,e,f,a)=>cond (b<a.length) (((idx a b).bind λg=>cond (g.2<0) (some true) ((idx a b).bind λh=>some (decide (h.2>=c)))).bind λi=>cond i (some (Sum.inl false)) (s8 N k (c,(av (b+1)),d,e,f,a))) (some (Sum.inr (d,e,f,a)))
def atj:=(Vz N).l N 23 (tm [(1,.I),(5,.P 0 5 0),(6,.I)] [] [(0,5,.box 0 (bg bK))] 1 [] 1) [tmr [(4,.Q)],(.exit 1,tm [(5,.P 0 5 0)] [] [(0,5,.box 0 (bg bK))] 1 [] 1)]
theorem Xn:lpT (atj N) (s8 N):=lpI
def VD:List aB×Int->Option Bool|(d,c)=>(idx d c).bind λa=>(cond (a.1==1) (some true) ((cond (a.1==2) (some true) (some (a.1==3))).bind λe=>some e)).bind λf=>cond f ((cond (a.2.1==0) (cond (a.2.2.1==0) (some ((a.2.2.2.length:Int)==0)) (some false)) (some false)).bind λg=>g) ((cond (a.1==4) (some true) (some (a.1==7))).bind λh=>cond h ((cond (a.2.1>=0) (cond (a.2.1<d.length) (cond (a.2.2.1==0) (some ((a.2.2.2.length:Int)==0)) (some false)) (some false)) (some false)).bind λi=>i) (cond (a.1==6) ((cond (a.2.1>=0) (cond (a.2.1<c) (cond (a.2.2.1>=1) (cond (a.2.2.1<=16) (some ((a.2.2.2.length:Int)==0)) (some false)) (some false)) (some false)) (some false)).bind λj=>j) (cond (a.1==5) ((s8 N N (c,0,a.1,a.2.1,a.2.2.1,a.2.2.2)).bind λl=>match l with|.inl m=>m|.inr b=>(cond (b.2.1==0) (cond (b.2.2.1==0) (cond ((b.2.2.2.length:Int)>0) ((Sl N (b.2.2.2,8)).bind λn=>some n) (some false)) (some false)) (some false)).bind λo=>o) false)))
def af4:=(atj N).p (VD N) (by delta VD;rw[Xn N N];kernel_rfl)
def VE:=(af4 N).on 345 ⟨[.agg (cP bK)],[tmf [.D .I]],0,[],[],[(0,11,.I),(0,27,.I)],[]⟩
def s9(N:Nat):Nat->tmI×Int×zU->Option tmI|0,_=>none|k+1,(a,b,d,e,f,c)=>cond (b<c.length) ((idx c b).bind λg=>aK (room (a.length+1) 8) (s9 N k ((a++[g.2]),(av (b+1)),d,e,f,c))) a
def atk:=(VE N).l N 7 (tm [(1,.P 0 1 0),(3,.A .I 1),(4,.I)] [] [(0,1,.box 0 (cP bK))] 1 [1] 2) [(.exit 0,tmv [(3,.A .I 0)] 0 1)]
theorem Xo:lpT (atk N) (s9 N):=lpI
def VF:zU->Option tmI|(a,b,c,d)=>cond (a==6) (aK (room 1 8) ((s9 N N ([b],0,a,b,c,d)).bind λe=>e)) ((s9 N N ([],0,a,b,c,d)).bind λf=>f)
def af6:=(atk N).p (VF N) (by delta VF;rw[Xo N N];kernel_rfl)
def FH:bW:=⟨[.c (.sl bK .bD),.I],[tmf [.D .I]],0,[(0,21,11,.I),(0,25,67,.bool),(0,26,8,.I),(0,28,88,.bool),(0,29,8,.I)],[],[(0,103,.I)],[]⟩
abbrev Oz:Type:=(List aB)×Int->Option tmI
def VG(R:Oz):ah:=((af6 N).E.on FH).put 266 FH R
def Wl:bt:=tmv [(0,.c (.sl bK .bD)),(1,.I),(5,.D .I),(6,.A .I 0),(7,.I),(8,.I),(9,.D .I),(10,.I)] 0 1
def Wr:bn:=[(.exit 2,tmv [(0,.c (.sl bK .bD)),(1,.I),(5,.D .I),(6,.A .I 0),(7,.I),(8,.I)] 0 1)]
def iZ(N:Nat)(R:Oz):Nat->List aB×Int×tmI×tmI×Int×Int×tmI×Int->Option (List aB×Int×tmI×tmI×Int×Int)|0,_=>none|k+1,(a,f,g,c,b,h,d,e)=>cond (e<d.length) ((idx a b).bind λi=>(cond (i.1==6) ((idx a b).bind λj=>some j.2.2.1) (some 1)).bind λl=>(idx d e).bind λm=>(idx c m).bind λn=>iZ N R k (a,f,g,c,b,(min (av (h+(av (l*n)))) 5001),d,(av (e+1)))) (a,f,g,c,b,h)
theorem WD(R:Oz):∀k,iZ N R k=lp (VG N R) 0 15 (tq 266) 15 Wl Wr k|0=>rfl|k+1=>funext λ⟨a,b,c,d,e,f,g,h⟩=>by rw[iZ,WD R k];kernel_rfl
def VH(R:Oz):ah:=(VG N R).aa N 0 15 Wl Wr
def Ws:bt:=tmv [(0,.c (.sl bK .bD)),(1,.I),(5,.D .I),(6,.A .I 0),(7,.I)] 0 1
def WC:bn:=[(.exit 0,tmv [(6,.A .I 0)] 0 1)]
def iR(R:Oz):Nat->List aB×Int×tmI×tmI×Int->Option tmI|0,_=>none|k+1,(c,g,h,e,d)=>cond (d<c.length) ((idx c d).bind λb=>(VF N (b.1,b.2.1,b.2.2.1,b.2.2.2)).bind λi=>(iZ N R N (c,g,h,e,d,1,i,0)).bind λa=>(cond (a.2.1>0) ((idx a.1 a.2.2.2.2.1).bind λj=>some (j.1==4)) (some false)).bind λl=>(cond l ((idx a.1 a.2.2.2.2.1).bind λm=>(idx a.2.2.1 m.2.1).bind λn=>some (min (av (a.2.2.2.2.2+n)) 5001)) (some a.2.2.2.2.2)).bind λf=>(cond (a.2.1>0) ((idx a.1 a.2.2.2.2.1).bind λo=>some (o.1==7)) (some false)).bind λp=>(cond p ((idx a.1 a.2.2.2.2.1).bind λq=>(idx a.2.2.1 q.2.1).bind λr=>some (min (av (f+(av (16*r)))) 5001)) (some f)).bind λs=>aK (room (a.2.2.2.1.length+1) 8) (iR R k (a.1,a.2.1,a.2.2.1,(a.2.2.2.1++[s]),(av (a.2.2.2.2.1+1))))) e
theorem WF(R:Oz):∀k,iR N R k=lp (VH N R) 0 8 (tq 266) 8 Ws WC k|0=>rfl|k+1=>funext λ⟨a,b,c,d,e⟩=>by rw[iR,WF R k,WD N R N];kernel_rfl
def atl(R:Oz):ah:=(VH N R).aa N 0 8 Ws WC
def D0:Nat->List aB×Int->Option tmI|0,_=>none|N+1,(b,a)=>cond (a>0) ((D0 N (b,(av (a-1)))).bind λc=>(iR N (D0 N) N (b,a,c,[],0)).bind λd=>d) ((iR N (D0 N) N (b,a,[],[],0)).bind λe=>e)
theorem adO:∀N:Nat,rD (bQ A) 266 (FH.ym (D0 N))|0=>Oi λ_=>rfl|N+1=>(adI ((((((af6 N).ok A).on FH).pJ (adO N)).aa N 0 15 Wl Wr).aa N 0 8 Ws WC) Hu 266 FH.a FH.ta FH.r FH.tr FH.k).plain (funext λ⟨a,b⟩=>by rw[D0,WF N (D0 N) N];kernel_rfl)
def af7:Evq:=⟨(af6 N).E.put 266 FH (D0 N),λA=>((af6 N).ok A).pJ (adO A N)⟩
def VI:=(af7 N).on 186 (sg [.c (.sl bK .bD)] [tmf [.I]])
def Ed:Nat->List aB×Int->Option (Int⊕(List aB))|0,_=>none|k+1,(a,b)=>cond (b<a.length) ((VD N (a,b)).bind λc=>cond (!c) (some (Sum.inl 8)) (Ed k (a,(av (b+1))))) (some (Sum.inr a))
def VJ:=(VI N).l N 6 (tmn [(0,.c (.sl bK .bD)),(3,.I)]) [tmr [(2,.I)],(.exit 0,tmn [(0,.c (.sl bK .bD))])]
theorem X8:lpT (VJ N) (Ed N):=lpI
def Ee(N:Nat):Nat->List aB×tmI×Int->Option (Int⊕Unit)|0,_=>none|k+1,(b,c,a)=>cond (a<b.length) ((idx c a).bind λd=>cond (d>5000) (some (Sum.inl 8)) (Ee N k (b,c,(av (a+1))))) (some (Sum.inr ()))
def atm:=(VJ N).l N 17 (tmn [(0,.c (.sl bK .bD)),(4,.D .I),(5,.I)]) [tmr [(2,.I)],(.exit 2,tmz)]
theorem X9:lpT (atm N) (Ee N):=lpI
def VK:List aB->Option Int|a=>cond ((a.length:Int)>32) (some 8) ((Ed N N (a,0)).bind λc=>match c with|.inl d=>d|.inr b=>(D0 N (b,3)).bind λe=>(Ee N N (b,e,0)).bind λf=>match f with|.inl g=>g|.inr h=>some 0)
def ak5:=(atm N).p (VK N) (by delta VK;rw[X8 N N,X9 N N];kernel_rfl)
def OA(N:Nat):Int×Int->Option Int|(b,a)=>aK (!(a=0)) (some (av ((av (Int.tdiv (av ((av (b+a))-1)) a))*a)))
def af9:=((ak5 N).on 123 (sg [.I,.I] [tmf [.I]])).p (OA N)
def VL:=(af9 N).on 180 ⟨[.c (.sl .I .bD),.c (.sl .I .bD),.c (.sl dh .bD)],[tmf [.D .I],tmf [.I],tmf [.I]],0,[],[],[(0,34,.I)],[]⟩
def uG:Nat->tmI×tmI×List Field×tmI×Int×Int×Int->Option (tmI×Int×Int)|0,_=>none|k+1,(f,a,b,c,g,h,d)=>cond (d<b.length) ((idx b d).bind λe=>(idx a e.2).bind λj=>(OA N (g,j)).bind λi=>aK (room (c.length+1) 8) ((idx f e.2).bind λl=>(idx a e.2).bind λm=>uG k (f,a,b,(c++[i]),(min 1000000 (av (i+l))),(max h m),(av (d+1))))) (c,g,h)
def atn:=(VL N).l N 5 (tmv [(0,.c (.sl .I .bD)),(1,.c (.sl .I .bD)),(2,.c (.sl dh .bD)),(9,.A .I 0),(10,.I),(11,.I),(12,.I)] 0 1) [(.exit 0,tmv [(9,.A .I 0),(10,.I),(11,.I)] 0 1)]
theorem Yi:lpT (atn N) (uG N):=lpI
def OB:tmI×tmI×List Field->Option (tmI×Int×Int)|(b,c,d)=>(uG N N (b,c,d,[],0,1,0)).bind λa=>(OA N (a.2.1,a.2.2)).bind λe=>some (a.1,(min 1000000 e),a.2.2)
def agb:=(atn N).p (OB N) (by delta OB;rw[Yi N N];kernel_rfl)
def VN:=(agb N).on 122 ⟨[.c (.sl bK .bD)],[tmf [.D .I],tmf [.D .I]],0,[],[],[(0,67,.I),(0,71,.I)],[]⟩
def bO:Nat->List aB×tmI×tmI×Int->Option (tmI×tmI)|0,_=>none|k+1,(c,a,b,d)=>cond (d<c.length) ((idx c d).bind λe=>cond (e.1==1) (aK (room (a.length+1) 8) (aK (room (b.length+1) 8) (bO k (c,(a++[1]),(b++[1]),(av (d+1)))))) (cond (e.1==3) (aK (room (a.length+1) 8) (aK (room (b.length+1) 8) (bO k (c,(a++[16]),(b++[8]),(av (d+1)))))) (cond (e.1==7) (aK (room (a.length+1) 8) (aK (room (b.length+1) 8) (bO k (c,(a++[24]),(b++[8]),(av (d+1)))))) (cond (e.1==6) ((idx c d).bind λg=>(idx c d).bind λh=>(idx a h.2.1).bind λi=>(idx c d).bind λj=>(idx b j.2.1).bind λl=>aK (room (a.length+1) 8) (aK (room (b.length+1) 8) (bO k (c,(a++[(min 1000000 (av (g.2.2.1*i)))]),(b++[l]),(av (d+1)))))) (cond (e.1==5) ((idx c d).bind λm=>(OB N (a,b,m.2.2.2)).bind λf=>aK (room (a.length+1) 8) (aK (room (b.length+1) 8) (bO k (c,(a++[f.2.1]),(b++[f.2.2]),(av (d+1)))))) (aK (room (a.length+1) 8) (aK (room (b.length+1) 8) (bO k (c,(a++[8]),(b++[8]),(av (d+1))))))))))) (a,b)
def ato:=(VN N).l N 4 (tm [(0,.c (.sl bK .bD)),(4,.A .I 0),(5,.A .I 1),(6,.I)] [] [] 1 [0,1] 2) [(.exit 0,tm [(4,.A .I 0),(5,.A .I 1)] [] [] 1 [0,1] 2)]
theorem Yj:lpT (ato N) (bO N):=lpI
def OC:List aB->Option (tmI×tmI)|b=>(bO N N (b,[],[],0)).bind λa=>(a.1,a.2)
def ala:=(ato N).p (OC N) (by delta OC;rw[Yj N N];kernel_rfl)
def Jf(N:Nat):Int->Option (List UInt8)|a=>cond (a==1) (some [119,110,45]) (cond (a==2) (some [119,116,45]) (cond (a==3) (some [119,98,45]) ((cond (a==4) (some true) (some (a==15))).bind λb=>cond b (some [119,45,45]) ((cond (a==5) (some true) ((cond (a==12) (some true) ((cond (a==16) (some true) ((cond (a==18) (some true) (some (a==21))).bind λc=>some c)).bind λd=>some d)).bind λe=>some e)).bind λf=>cond f (some [119,114,45]) ((cond (a==6) (some true) ((cond (a==7) (some true) ((cond (a==8) (some true) ((cond (a==9) (some true) ((cond (a==10) (some true) ((cond (a==11) (some true) (some (a==19))).bind λg=>some g)).bind λh=>some h)).bind λi=>some i)).bind λj=>some j)).bind λl=>some l)).bind λm=>cond m (some [119,114,114]) (cond (a==13) (some [119,114,102]) (cond (a==14) (some [114,102,114]) (cond (a==17) (some [114,114,45]) (cond (a==20) (some [114,114,114]) (cond (a==22) (some [105,45,45]) (cond (a==23) (some [114,105,45]) ((cond (a==24) (some true) ((cond (a==28) (some true) (some (a==32))).bind λn=>some n)).bind λo=>cond o (some [114,45,45]) (cond (a==25) (some [103,99,45]) ((cond (a==26) (some true) (some (a==27))).bind λp=>cond p (some [99,45,45]) (cond (a==29) (some [119,119,45]) ((cond (a==30) (some true) (some (a==31))).bind λq=>cond q (some [45,45,45]) (cond (a==33) (some [119,114,45]) (cond (a==34) (some [101,45,45]) (some ([]:List UInt8))))))))))))))))))))
def ald:=((ala N).on 249 ⟨[.B],[tmf [.str]],0,[(0,13,10,.bool),(0,24,13,.bool),(0,22,13,.bool),(0,20,13,.bool),(0,18,13,.bool),(0,39,19,.bool),(0,37,19,.bool),(0,35,19,.bool),(0,33,19,.bool),(0,31,19,.bool),(0,29,19,.bool),(0,64,39,.bool),(0,62,39,.bool),(0,72,45,.bool),(0,80,50,.bool)],[],[],[]⟩).p (Jf N)
def LK(N:Nat):iO->Option (Int×Int×Int)|(d,a,b,c)=>(a,b,c)
def alg:=((ald N).on 250 (sg [.agg (bg bf)] [(true,[.I,.I,.I])])).p (LK N)
def OD(N:Nat):Int×Int->Option Bool|(b,a)=>cond (b==45) (some (a==0)) ((cond (b==119) (some true) (some (b==114))).bind λc=>cond c ((cond (a>=0) (some (decide (a<16))) (some false)).bind λd=>d) ((cond (b==103) (some true) (some (b==101))).bind λe=>cond e ((cond (a>=(-1)) (some (decide (a<16))) (some false)).bind λf=>f) ((cond (b==116) (some true) (some (b==99))).bind λg=>cond g ((cond (a>=0) (some (decide (a<32))) (some false)).bind λh=>h) (cond (b==98) ((cond (a>=0) (some (decide (a<2))) (some false)).bind λi=>i) (cond (b==102) ((cond (a>=0) (some (decide (a<8))) (some false)).bind λj=>j) (cond (b==105) ((cond (a>=0) (some (decide (a<200))) (some false)).bind λl=>l) true))))))
def alj:=((alg N).on 311 ⟨[.B,.I],[tmf [.bool]],0,[(0,7,10,.bool),(0,10,4,.bool),(0,12,19,.bool),(0,15,4,.bool),(0,17,28,.bool),(0,20,4,.bool),(0,23,4,.bool),(0,26,4,.bool),(0,29,4,.bool)],[],[],[]⟩).p (OD N)
def Sm:iO->Option Int|(c,d,e,f)=>(Jf N c).bind λa=>(LK N (c,d,e,f)).bind λb=>cond ((a.length:Int)!=3) (some 8) (((idx a 0).bind λc2=>(OD N ((c2.toNat:Int),b.1)).bind λg=>some (!g)).bind λh=>cond h (some 8) (((idx a 1).bind λc5=>(OD N ((c5.toNat:Int),b.2.1)).bind λi=>some (!i)).bind λj=>cond j (some 8) (((idx a 2).bind λc8=>(OD N ((c8.toNat:Int),b.2.2)).bind λl=>some (!l)).bind λm=>cond m (some 8) (some 0))))
def agd:=((alj N).on 241 ⟨[.agg (bg bf)],[tmf [.I]],0,[(0,11,25,.bool),(0,100011,25,.bool)],[(0,7),(0,100007)],[],[]⟩).p (Sm N)
def VO:=(agd N).on 269 ⟨[.c (.sl iN .bD),.I],[tmf [.bool]],0,[(0,1,15,.bool),(0,10,60,.bool)],[],[],[]⟩
def Ef(N:Nat):Nat->List fA×Int×Int->Option (Bool⊕Unit)|0,_=>none|k+1,(b,c,a)=>cond (a<b.length) (((idx b a).bind λd=>cond (d.1>=c) (some true) (cond (a>0) ((idx b (av (a-1))).bind λe=>(idx b a).bind λf=>cond (e.1>=f.1) (some true) ((idx b (av (a-1))).bind λg=>(idx b a).bind λh=>some (g.2==h.2))) (some false))).bind λi=>cond i (some (Sum.inl false)) (Ef N k (b,c,(av (a+1))))) (some (Sum.inr ()))
def atp:=(VO N).l N 6 (tmn [(0,.c (.sl iN .bD)),(1,.I),(5,.I)]) [tmr [(4,.Q)],tmx]
theorem Yp:lpT (atp N) (Ef N):=lpI
def Sn:List fA×Int->Option Bool|(a,b)=>(cond ((a.length:Int)<1) (some true) ((idx a 0).bind λc=>some (c.1!=0))).bind λd=>cond d false ((Ef N N (a,b,0)).bind λe=>match e with|.inl f=>f|.inr g=>true)
def agf:=(atp N).p (Sn N) (by delta Sn;rw[Yp N N];kernel_rfl)
def VP:=(agf N).on 187 ⟨[.c (.sl bK .bD),.agg (cP dQ)],[tmf [.bool]],0,[(0,1,53,.bool),(0,10,78,.bool),(0,24,4,.bool)],[],[],[]⟩
def uH(N:Nat):Nat->List aB×Int×ic->Option (Bool⊕ic)|0,_=>none|k+1,(c,b,d,e,f,a,g,h,i)=>cond (b<a.length) (((idx a b).bind λj=>cond (j.2<0) (some true) ((idx a b).bind λl=>some (decide (l.2>=c.length)))).bind λm=>cond m (some (Sum.inl false)) (uH N k (c,(av (b+1)),d,e,f,a,g,h,i))) (some (Sum.inr (d,e,f,a,g,h,i)))
def VQ:=(VP N).l N 6 (tm [(0,.c (.sl bK .bD)),(3,.P 0 3 0),(5,.I)] [] [(0,3,.box 0 (cP dQ))] 1 [] 1) [tmr [(4,.Q)],(.exit 0,tm [(3,.P 0 3 0)] [] [(0,3,.box 0 (cP dQ))] 1 [] 1)]
theorem Yq:lpT (VQ N) (uH N):=lpI
def uI:Nat->Int×ic->Option (Bool⊕ic)|0,_=>none|k+1,(c,d,e,f,g,a,h,i)=>cond (c<a.length) ((idx a c).bind λb=>(Sm N (b.1,b.2.1,b.2.2.1,b.2.2.2)).bind λj=>cond (j !=0) (some (Sum.inl false)) (uI k ((av (c+1)),d,e,f,g,a,h,i))) (some (Sum.inr (d,e,f,g,a,h,i)))
def atq:=(VQ N).l N 16 (tm [(3,.P 0 3 0),(6,.I)] [] [(0,3,.box 0 (cP dQ))] 1 [] 1) [tmr [(4,.Q)],(.exit 2,tm [(3,.P 0 3 0)] [] [(0,3,.box 0 (cP dQ))] 1 [] 1)]
theorem Yt:lpT (atq N) (uI N):=lpI
def VS:List aB×ic->Option Bool|(g,h,c,d,e,f,i,j)=>((Sk N h).bind λl=>cond (!l) (some true) ((Sl N (e,16)).bind λm=>cond (!m) (some true) (cond (c<0) (some true) (cond (c>e.length) (some true) (cond (d<(-1)) (some true) (cond (d>=g.length) (some true) (cond ((f.length:Int)<1) (some true) (some (decide ((f.length:Int)>200)))))))))).bind λn=>cond n false ((uH N N (g,0,h,c,d,e,f,i,j)).bind λo=>match o with|.inl p=>p|.inr a=>(uI N N (0,a.1,a.2.1,a.2.2.1,a.2.2.2.1,a.2.2.2.2.1,a.2.2.2.2.2.1,a.2.2.2.2.2.2)).bind λq=>match q with|.inl r=>r|.inr b=>((Sn N (b.2.2.2.2.2.1,(b.2.2.2.2.1.length:Int))).bind λs=>cond s ((Sn N (b.2.2.2.2.2.2,(b.2.2.2.2.1.length:Int))).bind λt=>some t) (some false)).bind λu=>u)
def agi:=(atq N).p (VS N) (by delta VS;rw[Yq N N,Yt N N];kernel_rfl)
def VT:=(agi N).on 125 ⟨[.agg (cP aW)],[tmf [.bool]],0,[(0,1,30,.bool)],[],[],[]⟩
def Eg(N:Nat):Nat->tmI×Int×cZ->Option (Bool⊕cZ)|0,_=>none|k+1,(a,b,c,d,e)=>cond (b<a.length) ((idx a b).bind λf=>cond (f>256) (some (Sum.inl false)) (Eg N k (a,(av (b+1)),c,d,e))) (some (Sum.inr (c,d,e)))
def VU:=(VT N).l N 7 (tm [(1,.P 0 1 0),(3,.D .I),(5,.I)] [] [(0,1,.box 0 (cP aW))] 1 [] 1) [tmr [(2,.Q)],(.exit 0,tm [(1,.P 0 1 0)] [] [(0,1,.box 0 (cP aW))] 1 [] 1)]
theorem Yu:lpT (VU N) (Eg N):=lpI
def Eh(N:Nat):Nat->Int×cZ->Option (Bool⊕cZ)|0,_=>none|k+1,(b,c,a,d)=>cond (b<a.length) ((idx a b).bind λe=>cond ((e.length:Int)>64) (some (Sum.inl false)) (Eh N k ((av (b+1)),c,a,d))) (some (Sum.inr (c,a,d)))
def VV:=(VU N).l N 17 (tm [(1,.P 0 1 0),(6,.I)] [] [(0,1,.box 0 (cP aW))] 1 [] 1) [tmr [(2,.Q)],(.exit 2,tm [(1,.P 0 1 0)] [] [(0,1,.box 0 (cP aW))] 1 [] 1)]
theorem aa1:lpT (VV N) (Eh N):=lpI
def Eq(N:Nat):Nat->Int×Int×cZ->Option (Bool⊕(Int×cZ))|0,_=>none|k+1,(a,c,d,e,b)=>cond (c<a) ((idx b c).bind λf=>(idx b a).bind λg=>cond (f.1==g.1) (some (Sum.inl false)) (Eq N k (a,(av (c+1)),d,e,b))) (some (Sum.inr (a,d,e,b)))
def VW:=(VV N).l N 36 (tm [(1,.P 0 1 0),(7,.I),(8,.I)] [] [(0,1,.box 0 (cP aW))] 1 [] 1) [tmr [(2,.Q)],(.exit 6,tm [(1,.P 0 1 0),(7,.I)] [] [(0,1,.box 0 (cP aW))] 1 [] 1)]
theorem aa8:lpT (VW N) (Eq N):=lpI
def uJ:Nat->Int×cZ->Option (Bool⊕Unit)|0,_=>none|k+1,(c,e,f,d)=>cond (c<d.length) ((idx d c).bind λa=>(VS N (e,a.1,a.2.1,a.2.2.1,a.2.2.2.1,a.2.2.2.2.1,a.2.2.2.2.2.1,a.2.2.2.2.2.2)).bind λg=>cond (!g) (some (Sum.inl false)) ((Eq N N (c,0,e,f,d)).bind λh=>match h with|.inl i=>some (Sum.inl i)|.inr b=>uJ k ((av (b.1+1)),b.2.1,b.2.2.1,b.2.2.2))) (some (Sum.inr ()))
def atr:=(VW N).l N 27 (tm [(1,.P 0 1 0),(7,.I)] [] [(0,1,.box 0 (cP aW))] 1 [] 1) [tmr [(2,.Q)],(.exit 4,tmz)]
theorem ab0:lpT (atr N) (uJ N):=lpJ λk=>funext λ⟨a,b,c,d⟩=>by rw[uJ,aa8 N N];kernel_rfl
def VX:cZ->Option Bool|(a,e,b)=>((VK N a).bind λf=>cond (f !=0) (some true) (cond ((e.length:Int)>32) (some true) (cond ((b.length:Int)<1) (some true) (some (decide ((b.length:Int)>32)))))).bind λg=>cond g false ((OC N a).bind λh=>(Eg N N (h.1,0,a,e,b)).bind λi=>match i with|.inl j=>j|.inr c=>(Eh N N (0,c.1,c.2.1,c.2.2)).bind λl=>match l with|.inl m=>m|.inr d=>(uJ N N (0,d.1,d.2.1,d.2.2)).bind λn=>match n with|.inl o=>o|.inr p=>true)
def agk:=(atr N).p (VX N) (by delta VX;rw[Yu N N,aa1 N N,ab0 N N];kernel_rfl)
def VY:=(agk N).on 191 ⟨[.U],[tmf [.D .B]],1,[],[],[(0,2,.B),(0,3,.B),(0,11,.B),(0,18,.B)],[]⟩
def EQ(N:Nat):Nat->Int×tmI->Option (Int×tmI)|0,_=>none|k+1,(a,b)=>cond (a>=128) (aK (room (b.length+1) 1) (EQ N k ((aS (Int.tdiv a 128)),(b++[(wu8 ((wu8 (Int.tmod a 128))+128))])))) (a,b)
def att:=(VY N).l N 3 (tm [(0,.U),(3,.R 0 3 0 .B)] [] [(0,3,.row 0 .B)] 1 [] 1) [(.exit 0,tm [(0,.U),(3,.R 0 3 0 .B)] [] [(0,3,.row 0 .B)] 1 [] 1)]
theorem ac0:lpT (att N) (EQ N):=lpI
def iQ:Int->Option tmI|b=>(EQ N N (b,([]:tmI))).bind λa=>aK (room (a.2.length+1) 1) (some (a.2++[(wu8 a.1)]))
def alr:=(att N).p (iQ N) (by delta iQ;rw[ac0 N N];kernel_rfl)
def wT:Int->Option tmI|a=>(iQ N (aS a)).bind λb=>b
def alv:=((alr N).on 188 ⟨[.I],[tmf [.D .B]],1,[],[],[(0,2,.B)],[]⟩).p (wT N)
def OF:List UInt8->Option tmI|a=>(iQ N (aS (a.length:Int))).bind λb=>aK (room (b.length+(bP a).length) 1) (some (b++(bP a)))
def agm:=((alv N).on 190 (sg [.T] [tmf [.D .B]])).p (OF N)
def VZ:=(agm N).on 189 (sg [.c (.sl dh .bD)] [tmf [.D .B]])
def Fd:Nat->List Field×Int×tmI->Option tmI|0,_=>none|k+1,(a,b,c)=>cond (b<a.length) ((idx a b).bind λf=>(OF N f.1).bind λd=>aK (room (c.length+d.length) 1) ((idx a b).bind λg=>(wT N g.2).bind λe=>aK (room ((c++d).length+e.length) 1) (Fd k (a,(av (b+1)),((c++d)++e))))) c
def atu:=(VZ N).l N 4 (tm [(0,.c (.sl dh .bD)),(3,.R 0 7 0 .B),(4,.I)] [] [(0,7,.row 0 .B)] 1 [] 1) [(.exit 0,tm [(3,.R 0 7 0 .B)] [] [(0,7,.row 0 .B)] 1 [] 1)]
theorem ad6:lpT (atu N) (Fd N):=lpI
def Sp:List Field->Option tmI|a=>(wT N (a.length:Int)).bind λb=>(Fd N N (a,0,b)).bind λc=>c
def alz:=(atu N).p (Sp N) (by delta Sp;rw[ad6 N N];kernel_rfl)
def sC(N:Nat):Int->Option Int|a=>cond (a>=0) (some (aS ((aS a)*2))) (some (aS ((aS ((aS (av (0-(av (a+1)))))*2))+1)))
def alC:=((alz N).on 192 (sg [.I] [tmf [.U]])).p (sC N)
def vJ(N:Nat):Int->Option Bool|a=>(cond (a==110) (some true) (cond (a==103) (some true) (some (a==101)))).bind λb=>b
def alF:=((alC N).on 270 ⟨[.B],[tmf [.bool]],0,[(0,1,2,.bool)],[],[],[]⟩).p (vJ N)
def V0:iO->Option tmI|(a,E,G,H)=>(Jf N a).bind λb=>(LK N (a,E,G,H)).bind λc=>(idx b 0).bind λc2=>cond ((c2.toNat:Int)==45) ((idx b 1).bind λc3=>cond ((c3.toNat:Int)==45) ((idx b 2).bind λc4=>cond ((c4.toNat:Int)==45) (some [a]) ((idx b 2).bind λc5=>(vJ N (c5.toNat:Int)).bind λI=>cond I ((sC N c.2.2).bind λJ=>(iQ N J).bind λm=>aK (room (1+m.length) 1) (some ([a]++m))) ((iQ N (aS c.2.2)).bind λn=>aK (room (1+n.length) 1) (some ([a]++n))))) ((idx b 1).bind λc10=>(vJ N (c10.toNat:Int)).bind λK=>cond K ((sC N c.2.1).bind λL=>(iQ N L).bind λf=>aK (room (1+f.length) 1) ((idx b 2).bind λc14=>cond ((c14.toNat:Int)==45) (some ([a]++f)) ((idx b 2).bind λc15=>(vJ N (c15.toNat:Int)).bind λM=>cond M ((sC N c.2.2).bind λO=>(iQ N O).bind λo=>aK (room (([a]++f).length+o.length) 1) (some (([a]++f)++o))) ((iQ N (aS c.2.2)).bind λp=>aK (room (([a]++f).length+p.length) 1) (some (([a]++f)++p)))))) ((iQ N (aS c.2.1)).bind λg=>aK (room (1+g.length) 1) ((idx b 2).bind λc21=>cond ((c21.toNat:Int)==45) (some ([a]++g)) ((idx b 2).bind λc22=>(vJ N (c22.toNat:Int)).bind λP=>cond P ((sC N c.2.2).bind λQ=>(iQ N Q).bind λq=>aK (room (([a]++g).length+q.length) 1) (some (([a]++g)++q))) ((iQ N (aS c.2.2)).bind λr=>aK (room (([a]++g).length+r.length) 1) (some (([a]++g)++r)))))))) ((idx b 0).bind λc27=>(vJ N (c27.toNat:Int)).bind λR=>cond R ((sC N c.1).bind λS=>(iQ N S).bind λd=>aK (room (1+d.length) 1) ((idx b 1).bind λc31=>cond ((c31.toNat:Int)==45) ((idx b 2).bind λc32=>cond ((c32.toNat:Int)==45) (some ([a]++d)) ((idx b 2).bind λc33=>(vJ N (c33.toNat:Int)).bind λT=>cond T ((sC N c.2.2).bind λU=>(iQ N U).bind λs=>aK (room (([a]++d).length+s.length) 1) (some (([a]++d)++s))) ((iQ N (aS c.2.2)).bind λt=>aK (room (([a]++d).length+t.length) 1) (some (([a]++d)++t))))) ((idx b 1).bind λc38=>(vJ N (c38.toNat:Int)).bind λV=>cond V ((sC N c.2.1).bind λW=>(iQ N W).bind λh=>aK (room (([a]++d).length+h.length) 1) ((idx b 2).bind λc42=>cond ((c42.toNat:Int)==45) (some (([a]++d)++h)) ((idx b 2).bind λc43=>(vJ N (c43.toNat:Int)).bind λX=>cond X ((sC N c.2.2).bind λY=>(iQ N Y).bind λu=>aK (room ((([a]++d)++h).length+u.length) 1) (some ((([a]++d)++h)++u))) ((iQ N (aS c.2.2)).bind λv=>aK (room ((([a]++d)++h).length+v.length) 1) (some ((([a]++d)++h)++v)))))) ((iQ N (aS c.2.1)).bind λi=>aK (room (([a]++d).length+i.length) 1) ((idx b 2).bind λc49=>cond ((c49.toNat:Int)==45) (some (([a]++d)++i)) ((idx b 2).bind λc50=>(vJ N (c50.toNat:Int)).bind λZ=>cond Z ((sC N c.2.2).bind λa0=>(iQ N a0).bind λw=>aK (room ((([a]++d)++i).length+w.length) 1) (some ((([a]++d)++i)++w))) ((iQ N (aS c.2.2)).bind λx=>aK (room ((([a]++d)++i).length+x.length) 1) (some ((([a]++d)++i)++x))))))))) ((iQ N (aS c.1)).bind λe=>aK (room (1+e.length) 1) ((idx b 1).bind λc56=>cond ((c56.toNat:Int)==45) ((idx b 2).bind λc57=>cond ((c57.toNat:Int)==45) (some ([a]++e)) ((idx b 2).bind λc58=>(vJ N (c58.toNat:Int)).bind λa1=>cond a1 ((sC N c.2.2).bind λa2=>(iQ N a2).bind λy=>aK (room (([a]++e).length+y.length) 1) (some (([a]++e)++y))) ((iQ N (aS c.2.2)).bind λz=>aK (room (([a]++e).length+z.length) 1) (some (([a]++e)++z))))) ((idx b 1).bind λc63=>(vJ N (c63.toNat:Int)).bind λa3=>cond a3 ((sC N c.2.1).bind λa4=>(iQ N a4).bind λj=>aK (room (([a]++e).length+j.length) 1) ((idx b 2).bind λc67=>cond ((c67.toNat:Int)==45) (some (([a]++e)++j)) ((idx b 2).bind λc68=>(vJ N (c68.toNat:Int)).bind λa5=>cond a5 ((sC N c.2.2).bind λa6=>(iQ N a6).bind λA=>aK (room ((([a]++e)++j).length+A.length) 1) (some ((([a]++e)++j)++A))) ((iQ N (aS c.2.2)).bind λB=>aK (room ((([a]++e)++j).length+B.length) 1) (some ((([a]++e)++j)++B)))))) ((iQ N (aS c.2.1)).bind λl=>aK (room (([a]++e).length+l.length) 1) ((idx b 2).bind λc74=>cond ((c74.toNat:Int)==45) (some (([a]++e)++l)) ((idx b 2).bind λc75=>(vJ N (c75.toNat:Int)).bind λa7=>cond a7 ((sC N c.2.2).bind λa8=>(iQ N a8).bind λC=>aK (room ((([a]++e)++l).length+C.length) 1) (some ((([a]++e)++l)++C))) ((iQ N (aS c.2.2)).bind λD=>aK (room ((([a]++e)++l).length+D.length) 1) (some ((([a]++e)++l)++D))))))))))
def ago:=((alF N).on 193 ⟨[.agg (bg bf)],[tmf [.D .B]],0,[],[(0,5),(0,100005)],[(0,9,.B)],[]⟩).p (V0 N)
def V3:=(ago N).on 194 (sg [.c (.sl iN .bD)] [tmf [.D .B]])
def FS:Nat->List fA×Int×Int×tmI->Option tmI|0,_=>none|k+1,(a,f,b,c)=>cond (b<a.length) ((idx a b).bind λg=>(iQ N (aS (av (g.1-f)))).bind λd=>aK (room (c.length+d.length) 1) ((idx a b).bind λh=>(iQ N h.2).bind λe=>aK (room ((c++d).length+e.length) 1) ((idx a b).bind λi=>FS k (a,i.1,(av (b+1)),((c++d)++e))))) c
def atI:=(V3 N).l N 5 (tm [(0,.c (.sl iN .bD)),(3,.R 0 9 0 .B),(4,.I),(5,.I)] [] [(0,9,.row 0 .B)] 1 [] 1) [(.exit 0,tm [(3,.R 0 9 0 .B)] [] [(0,9,.row 0 .B)] 1 [] 1)]
theorem ae0:lpT (atI N) (FS N):=lpI
def Sq:List fA->Option tmI|a=>(iQ N (aS (a.length:Int))).bind λb=>(FS N N (a,0,0,b)).bind λc=>c
def agq:=(atI N).p (Sq N) (by delta Sq;rw[ae0 N N];kernel_rfl)
def V4:=(agq N).on 126 ⟨[.agg (cP aW)],[tmf [.D .B]],0,[(0,13,33,.bool)],[],[(0,29,.B)],[]⟩
def iS:Nat->Int×bT tmI->Option (bT tmI)|0,_=>none|k+1,(d,c,e,f,b)=>cond (d<c.length) ((idx c d).bind λa=>aK (room (b.length+1) 1) ((cond (a.1==4) (some true) (some (a.1==7))).bind λl=>cond l ((wT N a.2.1).bind λh=>aK (room ((b++[a.1]).length+h.length) 1) (iS k ((av (d+1)),c,e,f,((b++[a.1])++h)))) (cond (a.1==6) ((wT N a.2.1).bind λg=>aK (room ((b++[a.1]).length+g.length) 1) ((wT N a.2.2.1).bind λi=>aK (room (((b++[a.1])++g).length+i.length) 1) (iS k ((av (d+1)),c,e,f,(((b++[a.1])++g)++i))))) (cond (a.1==5) ((Sp N a.2.2.2).bind λj=>aK (room ((b++[a.1]).length+j.length) 1) (iS k ((av (d+1)),c,e,f,((b++[a.1])++j)))) (iS k ((av (d+1)),c,e,f,(b++[a.1]))))))) (c,e,f,b)
def V5:=(V4 N).l N 4 (tm [(1,.P 0 1 0),(3,.R 0 13 1 .B),(4,.I)] [] [(0,1,.box 0 (cP aW)),(0,13,.row 1 .B)] 1 [] 2) [(.exit 0,tm [(1,.P 0 1 0),(3,.R 0 13 1 .B)] [] [(0,1,.box 0 (cP aW)),(0,13,.row 1 .B)] 1 [] 2)]
theorem ae1:lpT (V5 N) (iS N):=lpI
def uK:Nat->Int×bT tmI->Option (bT tmI)|0,_=>none|k+1,(b,d,a,e,c)=>cond (b<a.length) ((idx a b).bind λg=>(OF N g).bind λf=>aK (room (c.length+f.length) 1) (uK k ((av (b+1)),d,a,e,(c++f)))) (d,a,e,c)
def V6:=(V5 N).l N 27 (tm [(1,.P 0 1 0),(3,.R 0 13 1 .B),(6,.I)] [] [(0,1,.box 0 (cP aW)),(0,13,.row 1 .B)] 1 [] 2) [(.exit 3,tm [(1,.P 0 1 0),(3,.R 0 13 1 .B)] [] [(0,1,.box 0 (cP aW)),(0,13,.row 1 .B)] 1 [] 2)]
theorem af1:lpT (V6 N) (uK N):=lpI
def uL:Nat->Int×Int×bT (tmI×ic)->Option (Int×bT (tmI×ic))|0,_=>none|k+1,(e,c,f,g,h,d,i,j,l,m,a,n,o)=>cond (c<a.length) ((idx a c).bind λb=>(V0 N (b.1,b.2.1,b.2.2.1,b.2.2.2)).bind λp=>aK (room (d.length+p.length) 1) (uL k (e,(av (c+1)),f,g,h,(d++p),i,j,l,m,a,n,o))) (e,f,g,h,d,i,j,l,m,a,n,o)
def V7:=(V6 N).l N 46 (tm [(1,.P 0 1 0),(3,.R 0 13 1 .B),(7,.I),(8,.P 0 8 2),(9,.I)] [] [(0,1,.box 0 (cP aW)),(0,13,.row 1 .B),(0,8,.box 2 (bg dQ))] 1 [] 3) [(.exit 7,tm [(1,.P 0 1 0),(3,.R 0 13 1 .B),(7,.I),(8,.P 0 8 2)] [] [(0,1,.box 0 (cP aW)),(0,13,.row 1 .B),(0,8,.box 2 (bg dQ))] 1 [] 3)]
theorem af3:lpT (V7 N) (uL N):=lpI
def jh:Nat->Int×bT tmI->Option tmI|0,_=>none|k+1,(g,n,o,h,c)=>cond (g<h.length) ((idx h g).bind λa=>(OF N a.1).bind λd=>aK (room (c.length+d.length) 1) ((wT N a.2.1).bind λe=>aK (room ((c++d).length+e.length) 1) ((sC N a.2.2.1).bind λp=>(iQ N p).bind λf=>aK (room (((c++d)++e).length+f.length) 1) ((Sp N a.2.2.2.1).bind λi=>aK (room ((((c++d)++e)++f).length+i.length) 1) ((wT N (a.2.2.2.2.1.length:Int)).bind λl=>aK (room (((((c++d)++e)++f)++i).length+l.length) 1) ((uL N N (g,0,n,o,h,(((((c++d)++e)++f)++i)++l),a.1,a.2.1,a.2.2.1,a.2.2.2.1,a.2.2.2.2.1,a.2.2.2.2.2.1,a.2.2.2.2.2.2)).bind λb=>(Sq N b.2.2.2.2.2.2.2.2.2.2.1).bind λj=>aK (room (b.2.2.2.2.1.length+j.length) 1) ((Sq N b.2.2.2.2.2.2.2.2.2.2.2).bind λm=>aK (room ((b.2.2.2.2.1++j).length+m.length) 1) (jh k ((av (b.1+1)),b.2.1,b.2.2.1,b.2.2.2.1,((b.2.2.2.2.1++j)++m)))))))))) c
def atJ:=(V7 N).l N 36 (tm [(1,.P 0 1 0),(3,.R 0 13 1 .B),(7,.I)] [] [(0,1,.box 0 (cP aW)),(0,13,.row 1 .B)] 1 [] 2) [(.exit 5,tm [(3,.R 0 13 0 .B)] [] [(0,13,.row 0 .B)] 1 [] 1)]
theorem af5:lpT (atJ N) (jh N):=lpJ λk=>funext λ⟨a,b,c,d,e⟩=>by rw[jh,af3 N N];kernel_rfl
def V8:cZ->Option tmI|(c,f,g)=>(wT N (c.length:Int)).bind λh=>(iS N N (0,c,f,g,h)).bind λa=>(wT N (a.2.1.length:Int)).bind λd=>aK (room (a.2.2.2.length+d.length) 1) ((uK N N (0,a.1,a.2.1,a.2.2.1,(a.2.2.2++d))).bind λb=>(wT N (b.2.2.1.length:Int)).bind λe=>aK (room (b.2.2.2.length+e.length) 1) ((jh N N (0,b.1,b.2.1,b.2.2.1,(b.2.2.2++e))).bind λi=>i))
def alK:=(atJ N).p (V8 N) (by delta V8;rw[ae1 N N,af1 N N,af5 N N];kernel_rfl)
def F79:cZ->Option Int|(a,b,c)=>(VX N (a,b,c)).bind λd=>cond (!d) (some 8) ((V8 N (a,b,c)).bind λe=>cond ((e.length:Int)>20000) (some 4) (some 0))
def G79:=((alK N).on 79 (sg [.agg (cP aW)] [tmf [.I]])).p (F79 N)
def V9:=(G79 N).on 173 ⟨[.c (.sl bf .bD)],[tmf [.I]],0,[(0,1,12,.bool),(0,11,49,.bool)],[],[],[]⟩
def GE:Nat->List Instr×Int->Option (Int⊕(List Instr))|0,_=>none|k+1,(b,c)=>cond (c<b.length) ((idx b c).bind λa=>((Sm N (a.1,a.2.1,a.2.2.1,a.2.2.2)).bind λd=>cond (d !=0) (some true) (cond (a.1==22) (cond (a.2.1>=b.length) (some true) (cond (a.1==23) (some (decide (a.2.2.1>=b.length))) (some false))) (cond (a.1==23) (some (decide (a.2.2.1>=b.length))) (some false)))).bind λe=>cond e (some (Sum.inl 8)) (GE k (b,(av (c+1))))) (some (Sum.inr b))
def atL:=(V9 N).l N 6 (tmn [(0,.c (.sl bf .bD)),(3,.I)]) [tmr [(2,.I)],(.exit 0,tmn [(0,.c (.sl bf .bD))])]
theorem af8:lpT (atL N) (GE N):=lpI
def Wa:List Instr->Option Int|b=>(cond ((b.length:Int)<1) (some true) (some (decide ((b.length:Int)>200)))).bind λd=>cond d (some 8) ((GE N N (b,0)).bind λe=>match e with|.inl f=>f|.inr c=>(idx c (av ((c.length:Int)-1))).bind λa=>cond (!(a.1==34&&(a.2.1==(-1)&&(a.2.2.1==0&&(a.2.2.2==0&&true))))) (some 8) (some 0))
def alN:=(atL N).p (Wa N) (by delta Wa;rw[af8 N N];kernel_rfl)
def Sr(N:Nat):List Instr×Int->Option tmI|(c,b)=>(idx c b).bind λa=>(cond (a.1==34) (some true) ((cond (a.1==28) (some true) (some (a.1==30))).bind λd=>some d)).bind λe=>cond e (some []) (cond (a.1==22) (some [a.2.1]) (cond (a.1==23) (cond (a.2.2.1==(av (b+1))) (some [(av (b+1))]) (some [(min (av (b+1)) a.2.2.1),(max (av (b+1)) a.2.2.1)])) (some [(av (b+1))])))
def agt:=((alN N).on 242 ⟨[.c (.sl bf .bD),.I],[tmf [.D .I]],0,[(0,7,12,.bool),(0,5,12,.bool)],[],[(0,20,.I),(0,30,.I),(0,41,.I),(0,44,.I)],[]⟩).p (Sr N)
def Wb:=(agt N).on 174 ⟨[.c (.sl bf .bD)],[tmf [.D .bool]],0,[(0,20,32,.bool)],[],[(0,10,.bool)],[]⟩
def ja(N:Nat):Nat->List Instr×Bool×Int×tmI×Int×List Bool->Option (List Instr×Bool×Int×List Bool)|0,_=>none|k+1,(e,g,b,c,d,a)=>(cond (d<c.length) (aK (gB b a.length) ((a[b.toNat]?).bind λi=>some i)) (some false)).bind λj=>cond j ((idx c d).bind λh=>aK (gB h a.length) ((a[h.toNat]?).bind λl=>cond (!l) ((idx c d).bind λf=>aK (gB f a.length) ((a[f.toNat]?).bind λm=>ja N k (e,true,b,c,(av (d+1)),(a.set f.toNat true)))) (ja N k (e,g,b,c,(av (d+1)),a)))) (e,g,b,a)
def Wc:=(Wb N).l N 19 (tm [(0,.c (.sl bf .bD)),(3,.R 0 10 0 .bool),(4,.Q),(5,.I),(6,.D .I),(7,.I)] [] [(0,10,.row 0 .bool)] 1 [] 1) [(.exit 4,tm [(0,.c (.sl bf .bD)),(3,.R 0 10 0 .bool),(4,.Q),(5,.I)] [] [(0,10,.row 0 .bool)] 1 [] 1)]
theorem ag0:lpT (Wc N) (ja N):=lpI
def jK:Nat->List Instr×Bool×Int×List Bool->Option (List Instr×Bool×List Bool)|0,_=>none|k+1,(a,d,c,e)=>cond (c<a.length) ((Sr N (a,c)).bind λf=>(ja N N (a,d,c,f,0,e)).bind λb=>jK k (b.1,b.2.1,(av (b.2.2.1+1)),b.2.2.2)) (a,d,e)
def Wd:=(Wc N).l N 12 (tm [(0,.c (.sl bf .bD)),(3,.R 0 10 0 .bool),(4,.Q),(5,.I)] [] [(0,10,.row 0 .bool)] 1 [] 1) [(.exit 2,tm [(0,.c (.sl bf .bD)),(3,.R 0 10 0 .bool),(4,.Q)] [] [(0,10,.row 0 .bool)] 1 [] 1)]
theorem ag2:lpT (Wd N) (jK N):=lpJ λk=>funext λ⟨a,b,c,d⟩=>by rw[jK,ag0 N N];kernel_rfl
def uN:Nat->List Instr×Bool×List Bool->Option (List Bool)|0,_=>none|k+1,(c,d,b)=>cond d ((jK N N (c,false,0,b)).bind λa=>uN k (a.1,a.2.1,a.2.2)) b
def atM:=(Wd N).l N 5 (tm [(0,.c (.sl bf .bD)),(3,.R 0 10 0 .bool),(4,.Q)] [] [(0,10,.row 0 .bool)] 1 [] 1) [(.exit 0,tm [(3,.R 0 10 0 .bool)] [] [(0,10,.row 0 .bool)] 1 [] 1)]
theorem ag4:lpT (atM N) (uN N):=lpJ λk=>funext λ⟨a,b,c⟩=>by rw[uN,ag2 N N];kernel_rfl
def Ss:List Instr->Option (List Bool)|a=>aK (decide (0<=(a.length:Int))) (aK (decide (0<=(a.length:Int))) (aK (decide ((Int.toNat (a.length:Int))<=(Int.toNat (a.length:Int)))&&room (Int.toNat (a.length:Int)) 1) (aK (gB 0 (List.replicate (Int.toNat (a.length:Int)) false).length) (((List.replicate (Int.toNat (a.length:Int)) false)[(Int.toNat 0)]?).bind λc=>(uN N N (a,true,((List.replicate (Int.toNat (a.length:Int)) false).set (Int.toNat 0) true))).bind λb=>b))))
def alR:=(atM N).p (Ss N) (by delta Ss;rw[ag4 N N];kernel_rfl)
def OG:iO->Option (tmI×tmI)|(c,d,e,f)=>(Jf N c).bind λb=>(LK N (c,d,e,f)).bind λa=>((idx b 0).bind λc2=>cond ((c2.toNat:Int)==114) (some (decide (a.1>=0))) ((idx b 0).bind λc3=>cond ((c3.toNat:Int)==101) (some (decide (a.1>=0))) (some false))).bind λg=>cond g (aK (room 1 8) (((idx b 0).bind λc5=>cond ((c5.toNat:Int)==119) (some (decide (a.1>=0))) ((idx b 0).bind λc6=>cond ((c6.toNat:Int)==103) (some (decide (a.1>=0))) (some false))).bind λh=>cond h (aK (room 1 8) (((idx b 1).bind λc8=>cond ((c8.toNat:Int)==114) (some (decide (a.2.1>=0))) ((idx b 1).bind λc9=>cond ((c9.toNat:Int)==101) (some (decide (a.2.1>=0))) (some false))).bind λi=>cond i (aK (room (1+1) 8) (((idx b 1).bind λc11=>cond ((c11.toNat:Int)==119) (some (decide (a.2.1>=0))) ((idx b 1).bind λc12=>cond ((c12.toNat:Int)==103) (some (decide (a.2.1>=0))) (some false))).bind λj=>cond j (aK (room (1+1) 8) (((idx b 2).bind λc14=>cond ((c14.toNat:Int)==114) (some (decide (a.2.2>=0))) ((idx b 2).bind λc15=>cond ((c15.toNat:Int)==101) (some (decide (a.2.2>=0))) (some false))).bind λl=>cond l (aK (room (2+1) 8) (((idx b 2).bind λc17=>cond ((c17.toNat:Int)==119) (some (decide (a.2.2>=0))) ((idx b 2).bind λc18=>cond ((c18.toNat:Int)==103) (some (decide (a.2.2>=0))) (some false))).bind λm=>cond m (aK (room (2+1) 8) (some ((([a.1]++[a.2.1])++[a.2.2]),(([a.1]++[a.2.1])++[a.2.2])))) (some ((([a.1]++[a.2.1])++[a.2.2]),([a.1]++[a.2.1]))))) (((idx b 2).bind λc20=>cond ((c20.toNat:Int)==119) (some (decide (a.2.2>=0))) ((idx b 2).bind λc21=>cond ((c21.toNat:Int)==103) (some (decide (a.2.2>=0))) (some false))).bind λn=>cond n (aK (room (2+1) 8) (some (([a.1]++[a.2.1]),(([a.1]++[a.2.1])++[a.2.2])))) (some (([a.1]++[a.2.1]),([a.1]++[a.2.1])))))) (((idx b 2).bind λc23=>cond ((c23.toNat:Int)==114) (some (decide (a.2.2>=0))) ((idx b 2).bind λc24=>cond ((c24.toNat:Int)==101) (some (decide (a.2.2>=0))) (some false))).bind λo=>cond o (aK (room (2+1) 8) (((idx b 2).bind λc26=>cond ((c26.toNat:Int)==119) (some (decide (a.2.2>=0))) ((idx b 2).bind λc27=>cond ((c27.toNat:Int)==103) (some (decide (a.2.2>=0))) (some false))).bind λp=>cond p (aK (room (1+1) 8) (some ((([a.1]++[a.2.1])++[a.2.2]),([a.1]++[a.2.2])))) (some ((([a.1]++[a.2.1])++[a.2.2]),[a.1])))) (((idx b 2).bind λc29=>cond ((c29.toNat:Int)==119) (some (decide (a.2.2>=0))) ((idx b 2).bind λc30=>cond ((c30.toNat:Int)==103) (some (decide (a.2.2>=0))) (some false))).bind λq=>cond q (aK (room (1+1) 8) (some (([a.1]++[a.2.1]),([a.1]++[a.2.2])))) (some (([a.1]++[a.2.1]),[a.1])))))) (((idx b 1).bind λc32=>cond ((c32.toNat:Int)==119) (some (decide (a.2.1>=0))) ((idx b 1).bind λc33=>cond ((c33.toNat:Int)==103) (some (decide (a.2.1>=0))) (some false))).bind λr=>cond r (aK (room (1+1) 8) (((idx b 2).bind λc35=>cond ((c35.toNat:Int)==114) (some (decide (a.2.2>=0))) ((idx b 2).bind λc36=>cond ((c36.toNat:Int)==101) (some (decide (a.2.2>=0))) (some false))).bind λs=>cond s (aK (room (1+1) 8) (((idx b 2).bind λc38=>cond ((c38.toNat:Int)==119) (some (decide (a.2.2>=0))) ((idx b 2).bind λc39=>cond ((c39.toNat:Int)==103) (some (decide (a.2.2>=0))) (some false))).bind λt=>cond t (aK (room (2+1) 8) (some (([a.1]++[a.2.2]),(([a.1]++[a.2.1])++[a.2.2])))) (some (([a.1]++[a.2.2]),([a.1]++[a.2.1]))))) (((idx b 2).bind λc41=>cond ((c41.toNat:Int)==119) (some (decide (a.2.2>=0))) ((idx b 2).bind λc42=>cond ((c42.toNat:Int)==103) (some (decide (a.2.2>=0))) (some false))).bind λu=>cond u (aK (room (2+1) 8) (some ([a.1],(([a.1]++[a.2.1])++[a.2.2])))) (some ([a.1],([a.1]++[a.2.1])))))) (((idx b 2).bind λc44=>cond ((c44.toNat:Int)==114) (some (decide (a.2.2>=0))) ((idx b 2).bind λc45=>cond ((c45.toNat:Int)==101) (some (decide (a.2.2>=0))) (some false))).bind λv=>cond v (aK (room (1+1) 8) (((idx b 2).bind λc47=>cond ((c47.toNat:Int)==119) (some (decide (a.2.2>=0))) ((idx b 2).bind λc48=>cond ((c48.toNat:Int)==103) (some (decide (a.2.2>=0))) (some false))).bind λw=>cond w (aK (room (1+1) 8) (some (([a.1]++[a.2.2]),([a.1]++[a.2.2])))) (some (([a.1]++[a.2.2]),[a.1])))) (((idx b 2).bind λc50=>cond ((c50.toNat:Int)==119) (some (decide (a.2.2>=0))) ((idx b 2).bind λc51=>cond ((c51.toNat:Int)==103) (some (decide (a.2.2>=0))) (some false))).bind λx=>cond x (aK (room (1+1) 8) (some ([a.1],([a.1]++[a.2.2])))) (some ([a.1],[a.1]))))))) (((idx b 1).bind λc53=>cond ((c53.toNat:Int)==114) (some (decide (a.2.1>=0))) ((idx b 1).bind λc54=>cond ((c54.toNat:Int)==101) (some (decide (a.2.1>=0))) (some false))).bind λy=>cond y (aK (room (1+1) 8) (((idx b 1).bind λc56=>cond ((c56.toNat:Int)==119) (some (decide (a.2.1>=0))) ((idx b 1).bind λc57=>cond ((c57.toNat:Int)==103) (some (decide (a.2.1>=0))) (some false))).bind λz=>cond z (aK (room 1 8) (((idx b 2).bind λc59=>cond ((c59.toNat:Int)==114) (some (decide (a.2.2>=0))) ((idx b 2).bind λc60=>cond ((c60.toNat:Int)==101) (some (decide (a.2.2>=0))) (some false))).bind λA=>cond A (aK (room (2+1) 8) (((idx b 2).bind λc62=>cond ((c62.toNat:Int)==119) (some (decide (a.2.2>=0))) ((idx b 2).bind λc63=>cond ((c63.toNat:Int)==103) (some (decide (a.2.2>=0))) (some false))).bind λB=>cond B (aK (room (1+1) 8) (some ((([a.1]++[a.2.1])++[a.2.2]),([a.2.1]++[a.2.2])))) (some ((([a.1]++[a.2.1])++[a.2.2]),[a.2.1])))) (((idx b 2).bind λc65=>cond ((c65.toNat:Int)==119) (some (decide (a.2.2>=0))) ((idx b 2).bind λc66=>cond ((c66.toNat:Int)==103) (some (decide (a.2.2>=0))) (some false))).bind λC=>cond C (aK (room (1+1) 8) (some (([a.1]++[a.2.1]),([a.2.1]++[a.2.2])))) (some (([a.1]++[a.2.1]),[a.2.1]))))) (((idx b 2).bind λc68=>cond ((c68.toNat:Int)==114) (some (decide (a.2.2>=0))) ((idx b 2).bind λc69=>cond ((c69.toNat:Int)==101) (some (decide (a.2.2>=0))) (some false))).bind λD=>cond D (aK (room (2+1) 8) (((idx b 2).bind λc71=>cond ((c71.toNat:Int)==119) (some (decide (a.2.2>=0))) ((idx b 2).bind λc72=>cond ((c72.toNat:Int)==103) (some (decide (a.2.2>=0))) (some false))).bind λE=>cond E (aK (room 1 8) (some ((([a.1]++[a.2.1])++[a.2.2]),[a.2.2]))) (some ((([a.1]++[a.2.1])++[a.2.2]),[])))) (((idx b 2).bind λc74=>cond ((c74.toNat:Int)==119) (some (decide (a.2.2>=0))) ((idx b 2).bind λc75=>cond ((c75.toNat:Int)==103) (some (decide (a.2.2>=0))) (some false))).bind λG=>cond G (aK (room 1 8) (some (([a.1]++[a.2.1]),[a.2.2]))) (some (([a.1]++[a.2.1]),[])))))) (((idx b 1).bind λc77=>cond ((c77.toNat:Int)==119) (some (decide (a.2.1>=0))) ((idx b 1).bind λc78=>cond ((c78.toNat:Int)==103) (some (decide (a.2.1>=0))) (some false))).bind λH=>cond H (aK (room 1 8) (((idx b 2).bind λc80=>cond ((c80.toNat:Int)==114) (some (decide (a.2.2>=0))) ((idx b 2).bind λc81=>cond ((c81.toNat:Int)==101) (some (decide (a.2.2>=0))) (some false))).bind λI=>cond I (aK (room (1+1) 8) (((idx b 2).bind λc83=>cond ((c83.toNat:Int)==119) (some (decide (a.2.2>=0))) ((idx b 2).bind λc84=>cond ((c84.toNat:Int)==103) (some (decide (a.2.2>=0))) (some false))).bind λJ=>cond J (aK (room (1+1) 8) (some (([a.1]++[a.2.2]),([a.2.1]++[a.2.2])))) (some (([a.1]++[a.2.2]),[a.2.1])))) (((idx b 2).bind λc86=>cond ((c86.toNat:Int)==119) (some (decide (a.2.2>=0))) ((idx b 2).bind λc87=>cond ((c87.toNat:Int)==103) (some (decide (a.2.2>=0))) (some false))).bind λK=>cond K (aK (room (1+1) 8) (some ([a.1],([a.2.1]++[a.2.2])))) (some ([a.1],[a.2.1]))))) (((idx b 2).bind λc89=>cond ((c89.toNat:Int)==114) (some (decide (a.2.2>=0))) ((idx b 2).bind λc90=>cond ((c90.toNat:Int)==101) (some (decide (a.2.2>=0))) (some false))).bind λL=>cond L (aK (room (1+1) 8) (((idx b 2).bind λc92=>cond ((c92.toNat:Int)==119) (some (decide (a.2.2>=0))) ((idx b 2).bind λc93=>cond ((c93.toNat:Int)==103) (some (decide (a.2.2>=0))) (some false))).bind λM=>cond M (aK (room 1 8) (some (([a.1]++[a.2.2]),[a.2.2]))) (some (([a.1]++[a.2.2]),[])))) (((idx b 2).bind λc95=>cond ((c95.toNat:Int)==119) (some (decide (a.2.2>=0))) ((idx b 2).bind λc96=>cond ((c96.toNat:Int)==103) (some (decide (a.2.2>=0))) (some false))).bind λO=>cond O (aK (room 1 8) (some ([a.1],[a.2.2]))) (some ([a.1],[])))))))) (((idx b 0).bind λc98=>cond ((c98.toNat:Int)==119) (some (decide (a.1>=0))) ((idx b 0).bind λc99=>cond ((c99.toNat:Int)==103) (some (decide (a.1>=0))) (some false))).bind λP=>cond P (aK (room 1 8) (((idx b 1).bind λatN=>cond ((atN.toNat:Int)==114) (some (decide (a.2.1>=0))) ((idx b 1).bind λatO=>cond ((atO.toNat:Int)==101) (some (decide (a.2.1>=0))) (some false))).bind λQ=>cond Q (aK (room 1 8) (((idx b 1).bind λatP=>cond ((atP.toNat:Int)==119) (some (decide (a.2.1>=0))) ((idx b 1).bind λc105=>cond ((c105.toNat:Int)==103) (some (decide (a.2.1>=0))) (some false))).bind λR=>cond R (aK (room (1+1) 8) (((idx b 2).bind λc107=>cond ((c107.toNat:Int)==114) (some (decide (a.2.2>=0))) ((idx b 2).bind λatQ=>cond ((atQ.toNat:Int)==101) (some (decide (a.2.2>=0))) (some false))).bind λS=>cond S (aK (room (1+1) 8) (((idx b 2).bind λatS=>cond ((atS.toNat:Int)==119) (some (decide (a.2.2>=0))) ((idx b 2).bind λatT=>cond ((atT.toNat:Int)==103) (some (decide (a.2.2>=0))) (some false))).bind λT=>cond T (aK (room (2+1) 8) (some (([a.2.1]++[a.2.2]),(([a.1]++[a.2.1])++[a.2.2])))) (some (([a.2.1]++[a.2.2]),([a.1]++[a.2.1]))))) (((idx b 2).bind λatU=>cond ((atU.toNat:Int)==119) (some (decide (a.2.2>=0))) ((idx b 2).bind λatV=>cond ((atV.toNat:Int)==103) (some (decide (a.2.2>=0))) (some false))).bind λU=>cond U (aK (room (2+1) 8) (some ([a.2.1],(([a.1]++[a.2.1])++[a.2.2])))) (some ([a.2.1],([a.1]++[a.2.1])))))) (((idx b 2).bind λc116=>cond ((c116.toNat:Int)==114) (some (decide (a.2.2>=0))) ((idx b 2).bind λc117=>cond ((c117.toNat:Int)==101) (some (decide (a.2.2>=0))) (some false))).bind λV=>cond V (aK (room (1+1) 8) (((idx b 2).bind λc119=>cond ((c119.toNat:Int)==119) (some (decide (a.2.2>=0))) ((idx b 2).bind λatW=>cond ((atW.toNat:Int)==103) (some (decide (a.2.2>=0))) (some false))).bind λW=>cond W (aK (room (1+1) 8) (some (([a.2.1]++[a.2.2]),([a.1]++[a.2.2])))) (some (([a.2.1]++[a.2.2]),[a.1])))) (((idx b 2).bind λatX=>cond ((atX.toNat:Int)==119) (some (decide (a.2.2>=0))) ((idx b 2).bind λatY=>cond ((atY.toNat:Int)==103) (some (decide (a.2.2>=0))) (some false))).bind λX=>cond X (aK (room (1+1) 8) (some ([a.2.1],([a.1]++[a.2.2])))) (some ([a.2.1],[a.1])))))) (((idx b 1).bind λatZ=>cond ((atZ.toNat:Int)==119) (some (decide (a.2.1>=0))) ((idx b 1).bind λat0=>cond ((at0.toNat:Int)==103) (some (decide (a.2.1>=0))) (some false))).bind λY=>cond Y (aK (room (1+1) 8) (((idx b 2).bind λat1=>cond ((at1.toNat:Int)==114) (some (decide (a.2.2>=0))) ((idx b 2).bind λat2=>cond ((at2.toNat:Int)==101) (some (decide (a.2.2>=0))) (some false))).bind λZ=>cond Z (aK (room 1 8) (((idx b 2).bind λc131=>cond ((c131.toNat:Int)==119) (some (decide (a.2.2>=0))) ((idx b 2).bind λat3=>cond ((at3.toNat:Int)==103) (some (decide (a.2.2>=0))) (some false))).bind λa0=>cond a0 (aK (room (2+1) 8) (some ([a.2.2],(([a.1]++[a.2.1])++[a.2.2])))) (some ([a.2.2],([a.1]++[a.2.1]))))) (((idx b 2).bind λat4=>cond ((at4.toNat:Int)==119) (some (decide (a.2.2>=0))) ((idx b 2).bind λat5=>cond ((at5.toNat:Int)==103) (some (decide (a.2.2>=0))) (some false))).bind λa1=>cond a1 (aK (room (2+1) 8) (some ([],(([a.1]++[a.2.1])++[a.2.2])))) (some ([],([a.1]++[a.2.1])))))) (((idx b 2).bind λat6=>cond ((at6.toNat:Int)==114) (some (decide (a.2.2>=0))) ((idx b 2).bind λc138=>cond ((c138.toNat:Int)==101) (some (decide (a.2.2>=0))) (some false))).bind λa2=>cond a2 (aK (room 1 8) (((idx b 2).bind λat7=>cond ((at7.toNat:Int)==119) (some (decide (a.2.2>=0))) ((idx b 2).bind λc141=>cond ((c141.toNat:Int)==103) (some (decide (a.2.2>=0))) (some false))).bind λa3=>cond a3 (aK (room (1+1) 8) (some ([a.2.2],([a.1]++[a.2.2])))) (some ([a.2.2],[a.1])))) (((idx b 2).bind λc143=>cond ((c143.toNat:Int)==119) (some (decide (a.2.2>=0))) ((idx b 2).bind λat8=>cond ((at8.toNat:Int)==103) (some (decide (a.2.2>=0))) (some false))).bind λa4=>cond a4 (aK (room (1+1) 8) (some ([],([a.1]++[a.2.2])))) (some ([],[a.1]))))))) (((idx b 1).bind λc146=>cond ((c146.toNat:Int)==114) (some (decide (a.2.1>=0))) ((idx b 1).bind λat9=>cond ((at9.toNat:Int)==101) (some (decide (a.2.1>=0))) (some false))).bind λa5=>cond a5 (aK (room 1 8) (((idx b 1).bind λaua=>cond ((aua.toNat:Int)==119) (some (decide (a.2.1>=0))) ((idx b 1).bind λaub=>cond ((aub.toNat:Int)==103) (some (decide (a.2.1>=0))) (some false))).bind λa6=>cond a6 (aK (room 1 8) (((idx b 2).bind λc152=>cond ((c152.toNat:Int)==114) (some (decide (a.2.2>=0))) ((idx b 2).bind λauc=>cond ((auc.toNat:Int)==101) (some (decide (a.2.2>=0))) (some false))).bind λa7=>cond a7 (aK (room (1+1) 8) (((idx b 2).bind λaud=>cond ((aud.toNat:Int)==119) (some (decide (a.2.2>=0))) ((idx b 2).bind λc156=>cond ((c156.toNat:Int)==103) (some (decide (a.2.2>=0))) (some false))).bind λa8=>cond a8 (aK (room (1+1) 8) (some (([a.2.1]++[a.2.2]),([a.2.1]++[a.2.2])))) (some (([a.2.1]++[a.2.2]),[a.2.1])))) (((idx b 2).bind λaue=>cond ((aue.toNat:Int)==119) (some (decide (a.2.2>=0))) ((idx b 2).bind λc159=>cond ((c159.toNat:Int)==103) (some (decide (a.2.2>=0))) (some false))).bind λa9=>cond a9 (aK (room (1+1) 8) (some ([a.2.1],([a.2.1]++[a.2.2])))) (some ([a.2.1],[a.2.1]))))) (((idx b 2).bind λauf=>cond ((auf.toNat:Int)==114) (some (decide (a.2.2>=0))) ((idx b 2).bind λc162=>cond ((c162.toNat:Int)==101) (some (decide (a.2.2>=0))) (some false))).bind λb0=>cond b0 (aK (room (1+1) 8) (((idx b 2).bind λc164=>cond ((c164.toNat:Int)==119) (some (decide (a.2.2>=0))) ((idx b 2).bind λaug=>cond ((aug.toNat:Int)==103) (some (decide (a.2.2>=0))) (some false))).bind λb1=>cond b1 (aK (room 1 8) (some (([a.2.1]++[a.2.2]),[a.2.2]))) (some (([a.2.1]++[a.2.2]),[])))) (((idx b 2).bind λc167=>cond ((c167.toNat:Int)==119) (some (decide (a.2.2>=0))) ((idx b 2).bind λc168=>cond ((c168.toNat:Int)==103) (some (decide (a.2.2>=0))) (some false))).bind λb2=>cond b2 (aK (room 1 8) (some ([a.2.1],[a.2.2]))) (some ([a.2.1],[])))))) (((idx b 1).bind λauh=>cond ((auh.toNat:Int)==119) (some (decide (a.2.1>=0))) ((idx b 1).bind λc171=>cond ((c171.toNat:Int)==103) (some (decide (a.2.1>=0))) (some false))).bind λb3=>cond b3 (aK (room 1 8) (((idx b 2).bind λc173=>cond ((c173.toNat:Int)==114) (some (decide (a.2.2>=0))) ((idx b 2).bind λaui=>cond ((aui.toNat:Int)==101) (some (decide (a.2.2>=0))) (some false))).bind λb4=>cond b4 (aK (room 1 8) (((idx b 2).bind λauj=>cond ((auj.toNat:Int)==119) (some (decide (a.2.2>=0))) ((idx b 2).bind λauk=>cond ((auk.toNat:Int)==103) (some (decide (a.2.2>=0))) (some false))).bind λb5=>cond b5 (aK (room (1+1) 8) (some ([a.2.2],([a.2.1]++[a.2.2])))) (some ([a.2.2],[a.2.1])))) (((idx b 2).bind λaul=>cond ((aul.toNat:Int)==119) (some (decide (a.2.2>=0))) ((idx b 2).bind λaum=>cond ((aum.toNat:Int)==103) (some (decide (a.2.2>=0))) (some false))).bind λb6=>cond b6 (aK (room (1+1) 8) (some ([],([a.2.1]++[a.2.2])))) (some ([],[a.2.1]))))) (((idx b 2).bind λc182=>cond ((c182.toNat:Int)==114) (some (decide (a.2.2>=0))) ((idx b 2).bind λc183=>cond ((c183.toNat:Int)==101) (some (decide (a.2.2>=0))) (some false))).bind λb7=>cond b7 (aK (room 1 8) (((idx b 2).bind λaun=>cond ((aun.toNat:Int)==119) (some (decide (a.2.2>=0))) ((idx b 2).bind λauo=>cond ((auo.toNat:Int)==103) (some (decide (a.2.2>=0))) (some false))).bind λb8=>cond b8 (aK (room 1 8) (some ([a.2.2],[a.2.2]))) (some ([a.2.2],[])))) (((idx b 2).bind λaup=>cond ((aup.toNat:Int)==119) (some (decide (a.2.2>=0))) ((idx b 2).bind λauq=>cond ((auq.toNat:Int)==103) (some (decide (a.2.2>=0))) (some false))).bind λb9=>cond b9 (aK (room 1 8) (some ([],[a.2.2]))) (some ([],[])))))))
def alU:=((alR N).on 178 ⟨[.agg (bg bf)],[tmf [.D .I],tmf [.D .I]],0,[(0,9,33,.bool),(0,12,55,.bool),(0,100009,33,.bool),(0,100012,55,.bool)],[(0,5),(0,100005)],[(0,38,.I),(0,60,.I)],[]⟩).p (OG N)
def Su(N:Nat):iO->Option Int|(a,b,c,e)=>cond (a==25) c ((cond (a==26) (some true) (some (a==27))).bind λd=>cond d b (some (-1)))
def agv:=((alU N).on 312 ⟨[.agg (bg bf)],[tmf [.I]],0,[(0,7,9,.bool)],[],[],[]⟩).p (Su N)
def We:=(agv N).on 243 ⟨[.agg (cP aW),.I,.agg (bg bf)],[tmf [.bool]],0,[(0,14,6,.bool)],[],[(0,17,.I)],[]⟩
def GT(N:Nat):Nat->Int×tmI×Int×bT iO->Option (Bool⊕(bT iO))|0,_=>none|k+1,(d,a,b,e,f,c,g,h,i,j)=>cond (b<a.length) ((idx a b).bind λl=>(idx c d).bind λm=>cond (l>=m.2.2.2.1.length) (some (Sum.inl false)) (GT N k (d,a,(av (b+1)),e,f,c,g,h,i,j))) (some (Sum.inr (e,f,c,g,h,i,j)))
def aur:=(We N).l N 5 (tm [(1,.I),(3,.P 0 3 0),(5,.P 0 5 1),(9,.A .I 2),(10,.I)] [] [(0,3,.box 0 (cP aW)),(0,5,.box 1 (bg bf))] 1 [2] 3) [tmr [(6,.Q)],(.exit 0,tm [(3,.P 0 3 0),(5,.P 0 5 1)] [] [(0,3,.box 0 (cP aW)),(0,5,.box 1 (bg bf))] 1 [] 2)]
theorem ag6:lpT (aur N) (GT N):=lpI
def Wf:bT (Int×iO)->Option Bool|(g,h,i,j,c,d,e,f)=>(OG N (c,d,e,f)).bind λb=>aK (room (0+b.1.length) 8) (aK (room (([]++b.1).length+b.2.length) 8) ((GT N N (j,(([]++b.1)++b.2),0,g,h,i,c,d,e,f)).bind λl=>match l with|.inl m=>m|.inr a=>(Su N (a.2.2.2.1,a.2.2.2.2.1,a.2.2.2.2.2.1,a.2.2.2.2.2.2)).bind λn=>(cond (n<a.2.2.1.length) (cond (a.2.2.2.1!=2) (some true) (some (decide (a.2.2.2.2.2.1<a.2.1.length)))) (some false)).bind λo=>o))
def alY:=(aur N).p (Wf N) (by delta Wf;rw[ag6 N N];kernel_rfl)
def LO(N:Nat):bT (Int×Int)->Option Int|(h,i,b,c,a)=>(cond (a<0) (some true) ((idx b c).bind λd=>some (decide (a>=d.2.2.2.1.length)))).bind λe=>cond e (some (-1)) ((idx b c).bind λf=>(idx f.2.2.2.1 a).bind λg=>g.2)
def al1:=((alY N).on 313 ⟨[.agg (cP aW),.I,.I],[tmf [.I]],0,[(0,1,19,.bool)],[],[],[]⟩).p (LO N)
def Jg(N:Nat):bT Int->Option Int|(b,d,e,a)=>cond (a<0) (some 0) ((idx b a).bind λc=>c.1)
def al4:=((al1 N).on 314 (sg [.agg (cP aW),.I] [tmf [.B]])).p (Jg N)
def Sv(N:Nat):zU->Option Bool|(a,c,d,e)=>(cond (a==1) (some true) (cond (a==2) (some true) (some (a==4)))).bind λb=>b
def al7:=((al4 N).on 315 ⟨[.agg (cP bK)],[tmf [.bool]],0,[(0,1,2,.bool)],[],[],[]⟩).p (Sv N)
def Sw:bT (Int×Int)->Option Int|(a,d,e,b,c)=>((Jg N (a,d,e,b)).bind λf=>cond (f !=5) (some true) (cond (c<0) (some true) ((idx a b).bind λg=>some (decide (c>=g.2.2.2.length))))).bind λh=>cond h (some (-1)) ((idx a b).bind λi=>(idx i.2.2.2 c).bind λj=>j.2)
def ama:=((al7 N).on 316 ⟨[.agg (cP aW),.I,.I],[tmf [.I]],0,[(0,1,25,.bool)],[],[],[]⟩).p (Sw N)
def LP:bT (Int×Int×Int)->Option Int|(b,d,e,a,f,g)=>(Jg N (b,d,e,a)).bind λc=>(cond (a<0) (some true) (cond (c !=f) (some (c !=g)) (some false))).bind λh=>cond h (some (-1)) ((idx b a).bind λi=>i.2.1)
def amd:=((ama N).on 317 ⟨[.agg (cP aW),.I,.B,.B],[tmf [.I]],0,[(0,2,24,.bool)],[],[],[]⟩).p (LP N)
def Wg:bT Int->Option Bool|(c,i,d,e)=>(idx d e).bind λa=>(cond (a.2.2.1==(-1)) (cond (a.2.1==0) (some true) (cond (a.2.1==1) ((idx a.2.2.2.1 0).bind λf=>(idx c f.2).bind λb=>(Sv N (b.1,b.2.1,b.2.2.1,b.2.2.2)).bind λg=>some g) (some false))) (some false)).bind λh=>h
def amg:=((amd N).on 318 ⟨[.agg (cP aW),.I],[tmf [.bool]],0,[(0,2,4,.bool)],[],[],[]⟩).p (Wg N)
def Wh:bT (Int×iO)->Option Bool|(c,e,b,i,a,j,n,p)=>(LO N (c,e,b,i,j)).bind λf=>(LO N (c,e,b,i,n)).bind λh=>(LO N (c,e,b,i,p)).bind λl=>(Jg N (c,e,b,f)).bind λd=>(Jg N (c,e,b,h)).bind λg=>(Jg N (c,e,b,l)).bind λo=>(cond (a==1) (some true) (some (a==32))).bind λq=>cond q (some (d==2)) (cond (a==2) (some (d==3)) ((cond (a==3) (some true) (some (a==23))).bind λr=>cond r (some (d==1)) (cond (a==5) (some (f==h)) ((cond (a==6) (some true) ((cond (a==7) (some true) ((cond (a==8) (some true) (some (a==9))).bind λs=>some s)).bind λt=>some t)).bind λu=>cond u ((cond (d==2) (cond (g==2) (some (o==2)) (some false)) (some false)).bind λv=>v) (cond (a==10) ((cond (d==1) (cond (g==2) (some (o==2)) (some false)) (some false)).bind λw=>w) (cond (a==11) ((cond (d==1) (cond (h==l) ((idx c h).bind λm=>(Sv N (m.1,m.2.1,m.2.2.1,m.2.2.2)).bind λx=>some x) (some false)) (some false)).bind λy=>y) (cond (a==12) ((cond (d==1) (some (g==1)) (some false)).bind λz=>z) (cond (a==13) ((Sw N (c,e,b,h,p)).bind λA=>some (A==f)) (cond (a==14) ((Sw N (c,e,b,f,n)).bind λB=>some (B==l)) (cond (a==15) (some (d==4)) (cond (a==16) ((LP N (c,e,b,h,4,4)).bind λC=>some (C==f)) (cond (a==17) ((LP N (c,e,b,f,4,4)).bind λD=>some (D==h)) (cond (a==18) ((cond (d==7) (some (g==2)) (some false)).bind λE=>E) (cond (a==19) (((LP N (c,e,b,h,7,6)).bind λG=>cond (G==f) (some (o==2)) (some false)).bind λH=>H) (cond (a==20) (((LP N (c,e,b,f,7,6)).bind λI=>cond (I==l) (some (g==2)) (some false)).bind λJ=>J) (cond (a==21) ((cond (d==2) (cond (g==3) (some true) (cond (g==7) (some true) (some (g==6)))) (some false)).bind λK=>K) (cond (a==25) ((cond (j==(-1)) (some true) ((idx b n).bind λL=>some (L.2.2.1==f))).bind λM=>M) ((cond (a==26) (some true) (some (a==27))).bind λO=>cond O ((Wg N (c,e,b,j)).bind λP=>P) (cond (a==28) ((cond (d==2) (some true) (cond (d==1) (some true) (some (d==3)))).bind λQ=>Q) ((cond (a==29) (some true) (some (a==33))).bind λR=>cond R ((cond (d==1) (some (g==2)) (some false)).bind λS=>S) (cond (a==34) ((cond (j==(-1)) (some true) ((idx b i).bind λT=>some (T.2.2.1==f))).bind λU=>U) true)))))))))))))))))))))
def amj:=((amg N).on 244 ⟨[.agg (cP aW),.I,.agg (bg bf)],[tmf [.bool]],0,[(0,6,39,.bool),(0,14,48,.bool),(0,26,58,.bool),(0,24,58,.bool),(0,22,58,.bool),(0,29,6,.bool),(0,32,6,.bool),(0,35,6,.bool),(0,38,6,.bool),(0,56,6,.bool),(0,59,6,.bool),(0,62,6,.bool),(0,65,6,.bool),(0,68,6,.bool),(0,70,208,.bool),(0,76,6,.bool),(0,78,227,.bool),(0,81,6,.bool),(0,84,6,.bool)],[],[],[]⟩).p (Wh N)
def Sx:bT (Int×Int×Bool)->Option Int|(d,e,b,c,f,g)=>(idx b c).bind λh=>(idx h.2.2.2.2.1 f).bind λa=>(Wf N (d,e,b,c,a.1,a.2.1,a.2.2.1,a.2.2.2)).bind λi=>cond (!i) (some 16) (cond (!g) (some 6) ((Wh N (d,e,b,c,a.1,a.2.1,a.2.2.1,a.2.2.2)).bind λj=>cond (!j) (some 30) (some 0)))
def agx:=((amj N).on 175 (sg [.agg (cP aW),.I,.I,.Q] [tmf [.I]])).p (Sx N)
def Wi:=(agx N).on 319 ⟨[.agg (cP aW),.I,.agg (bg bf)],[tmf [.D .I],tmf [.I]],0,[],[],[(0,44,.I)],[]⟩
def Ha(N:Nat):Nat->tmI×Int×Int×cZ->Option tmI|0,_=>none|k+1,(a,b,c,e,f,d)=>(idx d b).bind λg=>cond (c<g.2.1) ((idx d b).bind λh=>(idx h.2.2.2.1 c).bind λi=>aK (room (a.length+1) 8) (Ha N k ((a++[i.2]),b,(av (c+1)),e,f,d))) a
def aus:=(Wi N).l N 10 (tm [(3,.P 0 3 0),(8,.A .I 1),(9,.I),(10,.I)] [] [(0,3,.box 0 (cP aW))] 1 [1] 2) [(.exit 0,tmv [(8,.A .I 0)] 0 1)]
theorem ag8:lpT (aus N) (Ha N):=lpI
def Wm:bT (Int×iO)->Option (tmI×Int)|(a,b,c,g,d,e,h,i)=>cond (d==24) ((LO N (a,b,c,g,e)).bind λj=>some ([],j)) ((Su N (d,e,h,i)).bind λf=>cond (f>=0) ((Ha N N ([],f,0,a,b,c)).bind λl=>some (l,(-1))) (some ([],(-1))))
def agz:=(aus N).p (Wm N) (by delta Wm;rw[ag8 N N];kernel_rfl)
def Wn:=(agz N).on 246 (sg [.c (.sl .I .bD),.c (.sl .I .bD)] [tmf [.bool]])
def Hb(N:Nat):Nat->tmI×tmI×Int->Option (Bool⊕Unit)|0,_=>none|k+1,(b,c,a)=>cond (a<b.length) ((idx b a).bind λd=>(idx c a).bind λe=>cond (d !=e) (some (Sum.inl false)) (Hb N k (b,c,(av (a+1))))) (some (Sum.inr ()))
def aut:=(Wn N).l N 6 (tmn [(0,.c (.sl .I .bD)),(1,.c (.sl .I .bD)),(5,.I)]) [tmr [(4,.Q)],tmx]
theorem ah4:lpT (aut N) (Hb N):=lpI
def Sy:tmI×tmI->Option Bool|(a,b)=>cond ((a.length:Int)!=(b.length:Int)) false ((Hb N N (a,b,0)).bind λc=>match c with|.inl d=>d|.inr e=>true)
def amo:=(aut N).p (Sy N) (by delta Sy;rw[ah4 N N];kernel_rfl)
def F76:Int->Option Int|a=>(OA N (a,8)).bind λb=>b
def G76:=((amo N).on 76 (sg [.I] [tmf [.I]])).p (F76 N)
def Wo:=(G76 N).on 179 (sg [.agg (cP aW),.c (.sl .I .bD)] [tmf [.I]])
def Hc:Nat->tmI×tmI×Int×Int->Option Int|0,_=>none|k+1,(a,c,d,b)=>cond (b<a.length) ((idx a b).bind λe=>(idx c e).bind λf=>(F76 N f).bind λg=>Hc k (a,c,(av (d+g)),(av (b+1)))) d
def auv:=(Wo N).l N 5 (tmn [(1,.c (.sl .I .bD)),(5,.D .I),(7,.I),(8,.I)]) [(.exit 0,tmn [(7,.I)])]
theorem aj0:lpT (auv N) (Hc N):=lpI
def OH:bT tmI->Option Int|(a,e,f,b)=>(OC N a).bind λc=>(Hc N N (b,c.1,0,0)).bind λd=>d
def amq:=(auv N).p (OH N) (by delta OH;rw[aj0 N N];kernel_rfl)
def Wp:bT (Int×Oy tmI)->Option (tmI×Bool)|(c,d,e,f,g,h,i,j,a)=>(Wm N (c,d,e,f,g,h,i,j)).bind λb=>(cond ((av ((a.length:Int)-(b.1.length:Int)))<0) (some true) (aK (decide (0<=(av ((a.length:Int)-(b.1.length:Int))))) (aK (decide ((Int.toNat (av ((a.length:Int)-(b.1.length:Int))))<=a.length)) ((Sy N ((a.drop (Int.toNat (av ((a.length:Int)-(b.1.length:Int))))),b.1)).bind λl=>some (!l))))).bind λm=>cond m (some ([],false)) (aK (decide (0<=(av ((a.length:Int)-(b.1.length:Int))))) (aK (decide ((Int.toNat (av ((a.length:Int)-(b.1.length:Int))))<=a.length)) (aK (room (0+(a.take (Int.toNat (av ((a.length:Int)-(b.1.length:Int))))).length) 8) (cond (b.2>=0) (aK (room (([]++(a.take (Int.toNat (av ((a.length:Int)-(b.1.length:Int)))))).length+1) 8) ((OH N (c,d,e,(([]++(a.take (Int.toNat (av ((a.length:Int)-(b.1.length:Int))))))++[b.2]))).bind λn=>some ((([]++(a.take (Int.toNat (av ((a.length:Int)-(b.1.length:Int))))))++[b.2]),(decide (n<=4096))))) ((OH N (c,d,e,([]++(a.take (Int.toNat (av ((a.length:Int)-(b.1.length:Int)))))))).bind λo=>some (([]++(a.take (Int.toNat (av ((a.length:Int)-(b.1.length:Int)))))),(decide (o<=4096))))))))
def agC:=((amq N).on 245 ⟨[.agg (cP aW),.I,.agg (bg bf),.c (.sl .I .bD)],[tmf [.D .I],tmf [.bool]],0,[(0,3,35,.bool)],[],[(0,36,.I),(0,45,.I)],[]⟩).p (Wp N)
def Wq:=(agC N).on 176 ⟨[.agg (cP aW),.I],[tmf [.D (.sl .I)],tmf [.bool]],0,[(0,31,83,.bool)],[],[(0,24,(.sl .I)),(0,27,.bool)],[]⟩
def iT:Nat->Int×List Instr×Bool×Int×tmI×tmI×Int×bT (List tmI×List Bool)->Option (Bool⊕(Int×List Instr×Bool×Int×bT (List tmI×List Bool)))|0,_=>none|k+1,(g,h,n,i,d,e,f,j,l,m,c,b)=>cond (f<e.length) ((idx e f).bind λa=>(aK (gB a b.length) ((b[a.toNat]?).bind λo=>cond o (aK (gB a c.length) ((c[a.toNat]?).bind λp=>(Sy N (p,d)).bind λq=>some (!q))) (some false))).bind λr=>cond r (some (Sum.inl false)) (aK (gB a b.length) ((b[a.toNat]?).bind λs=>cond (!s) (aK (gB a c.length) ((c[a.toNat]?).bind λt=>aK (gB a b.length) ((b[a.toNat]?).bind λu=>iT k (g,h,true,i,d,e,(av (f+1)),j,l,m,(c.set a.toNat d),(b.set a.toNat true))))) (iT k (g,h,n,i,d,e,(av (f+1)),j,l,m,c,b))))) (some (Sum.inr (g,h,n,i,j,l,m,c,b)))
def Wt:=(Wq N).l N 26 (tm [(1,.I),(2,.P 0 2 0),(6,.D bf),(7,.R 0 24 1 (.sl .I)),(8,.R 0 27 2 .bool),(9,.Q),(10,.I),(11,.D .I),(13,.D .I),(14,.I)] [] [(0,2,.box 0 (cP aW)),(0,24,.row 1 (.sl .I)),(0,27,.row 2 .bool)] 1 [] 3) [tmr [(4,.N),(5,.Q)],(.exit 4,tm [(1,.I),(2,.P 0 2 0),(6,.D bf),(7,.R 0 24 1 (.sl .I)),(8,.R 0 27 2 .bool),(9,.Q),(10,.I)] [] [(0,2,.box 0 (cP aW)),(0,24,.row 1 (.sl .I)),(0,27,.row 2 .bool)] 1 [] 3)]
theorem aj4:lpT (Wt N) (iT N):=lpI
def eH:Nat->Int×List Instr×Bool×Int×bT (List tmI×List Bool)->Option (Bool⊕(Int×List Instr×Bool×bT (List tmI×List Bool)))|0,_=>none|k+1,(f,c,l,a,g,h,i,d,e)=>cond (a<c.length) (aK (gB a e.length) ((e[a.toNat]?).bind λn=>cond (!n) (eH k (f,c,l,(av (a+1)),g,h,i,d,e)) ((idx c a).bind λj=>aK (gB a d.length) ((d[a.toNat]?).bind λo=>(Wp N (g,h,i,f,j.1,j.2.1,j.2.2.1,j.2.2.2,o)).bind λm=>cond (!m.2) (some (Sum.inl false)) ((Sr N (c,a)).bind λp=>(iT N N (f,c,l,a,m.1,p,0,g,h,i,d,e)).bind λq=>match q with|.inl r=>some (Sum.inl r)|.inr b=>eH k (b.1,b.2.1,b.2.2.1,(av (b.2.2.2.1+1)),b.2.2.2.2.1,b.2.2.2.2.2.1,b.2.2.2.2.2.2.1,b.2.2.2.2.2.2.2.1,b.2.2.2.2.2.2.2.2)))))) (some (Sum.inr (f,c,l,g,h,i,d,e)))
def Wu:=(Wt N).l N 13 (tm [(1,.I),(2,.P 0 2 0),(6,.D bf),(7,.R 0 24 1 (.sl .I)),(8,.R 0 27 2 .bool),(9,.Q),(10,.I)] [] [(0,2,.box 0 (cP aW)),(0,24,.row 1 (.sl .I)),(0,27,.row 2 .bool)] 1 [] 3) [tmr [(4,.N),(5,.Q)],(.exit 2,tm [(1,.I),(2,.P 0 2 0),(6,.D bf),(7,.R 0 24 1 (.sl .I)),(8,.R 0 27 2 .bool),(9,.Q)] [] [(0,2,.box 0 (cP aW)),(0,24,.row 1 (.sl .I)),(0,27,.row 2 .bool)] 1 [] 3)]
theorem aj5:lpT (Wu N) (eH N):=lpJ λk=>funext λ⟨a,b,c,d,e,f,g,h,i⟩=>by rw[eH,aj4 N N];kernel_rfl
def jL:Nat->Int×List Instr×Bool×bT (List tmI×List Bool)->Option (Bool⊕(List Instr×List tmI))|0,_=>none|k+1,(d,b,e,f,g,h,c,i)=>cond e ((eH N N (d,b,false,0,f,g,h,c,i)).bind λj=>match j with|.inl l=>some (Sum.inl l)|.inr a=>jL k (a.1,a.2.1,a.2.2.1,a.2.2.2.1,a.2.2.2.2.1,a.2.2.2.2.2.1,a.2.2.2.2.2.2.1,a.2.2.2.2.2.2.2)) (some (Sum.inr (b,c)))
def auw:=(Wu N).l N 6 (tm [(1,.I),(2,.P 0 2 0),(6,.D bf),(7,.R 0 24 1 (.sl .I)),(8,.R 0 27 2 .bool),(9,.Q)] [] [(0,2,.box 0 (cP aW)),(0,24,.row 1 (.sl .I)),(0,27,.row 2 .bool)] 1 [] 3) [tmr [(4,.N),(5,.Q)],(.exit 0,tm [(6,.D bf),(7,.R 0 24 0 (.sl .I))] [] [(0,24,.row 0 (.sl .I))] 1 [] 1)]
theorem aj9:lpT (auw N) (jL N):=lpJ λk=>funext λ⟨a,b,c,d,e,f,g,h⟩=>by rw[jL,aj5 N N];kernel_rfl
def OI:bT Int->Option (List tmI×Bool)|(e,f,c,d)=>(idx c d).bind λa=>aK (decide (0<=(a.2.2.2.2.1.length:Int))) (aK (decide (0<=(a.2.2.2.2.1.length:Int))) (aK (decide ((Int.toNat (a.2.2.2.2.1.length:Int))<=(Int.toNat (a.2.2.2.2.1.length:Int)))&&room (Int.toNat (a.2.2.2.2.1.length:Int)) 24) (aK (decide (0<=(a.2.2.2.2.1.length:Int))) (aK (decide (0<=(a.2.2.2.2.1.length:Int))) (aK (decide ((Int.toNat (a.2.2.2.2.1.length:Int))<=(Int.toNat (a.2.2.2.2.1.length:Int)))&&room (Int.toNat (a.2.2.2.2.1.length:Int)) 1) (aK (gB 0 (List.replicate (Int.toNat (a.2.2.2.2.1.length:Int)) false).length) (((List.replicate (Int.toNat (a.2.2.2.2.1.length:Int)) false)[(Int.toNat 0)]?).bind λj=>(jL N N (d,a.2.2.2.2.1,true,e,f,c,(List.replicate (Int.toNat (a.2.2.2.2.1.length:Int)) []),((List.replicate (Int.toNat (a.2.2.2.2.1.length:Int)) false).set (Int.toNat 0) true))).bind λg=>match g with|.inl h=>some ([],h)|.inr b=>aK (gB (av ((b.1.length:Int)-1)) b.2.length) ((b.2[(Int.toNat (av ((b.1.length:Int)-1)))]?).bind λi=>some (b.2,((i.length:Int)==0))))))))))
def amu:=(auw N).p (OI N) (by delta OI;rw[aj9 N N];kernel_rfl)
def Sz(N:Nat):Int->Option Int|a=>aK (!(a<0)) (some (aS ((aS (1*(2^min a.toNat 64)))-1)))
def agE:=((amu N).on 247 (sg [.I] [tmf [.U]])).p (Sz N)
def Wv:=(agE N).on 248 (sg [.agg (bg bf)] [tmf [.U]])
def Hd(N:Nat):Nat->tmI×Int×Int->Option Int|0,_=>none|k+1,(a,c,b)=>cond (b<a.length) ((idx a b).bind λd=>aK (!(d<0)) (Hd N k (a,(DW .u64 c (aS (1*(2^min d.toNat 64)))),(av (b+1))))) c
def auy:=(Wv N).l N 5 (tmn [(4,.D .I),(5,.U),(6,.I)]) [(.exit 0,tmn [(5,.U)])]
theorem ak0:lpT (auy N) (Hd N):=lpI
def Ww:iO->Option Int|(a,b,c,d)=>(OG N (a,b,c,d)).bind λe=>(Hd N N (e.2,0,0)).bind λf=>f
def agG:=(auy N).p (Ww N) (by delta Ww;rw[ak0 N N];kernel_rfl)
def Wx:=(agG N).on 177 ⟨[.c (.sl bf .bD),.I,.I],[tmf [.D .U]],0,[(0,29,55,.bool),(0,44,109,.bool)],[],[(0,20,.U)],[]⟩
def Hk:Nat->List Instr×Int×Int×List Bool×Int×tmI->Option (List Instr×Int×List Bool×tmI)|0,_=>none|k+1,(c,d,e,f,a,b)=>cond (a<c.length) ((Sz N e).bind λg=>aK (gB a b.length) ((b[a.toNat]?).bind λh=>Hk k (c,d,e,f,(av (a+1)),(b.set a.toNat g)))) (c,d,f,b)
def Wy:=(Wx N).l N 5 (tm [(0,.c (.sl bf .bD)),(1,.I),(2,.I),(7,.D .bool),(8,.R 0 20 0 .U),(9,.I)] [] [(0,20,.row 0 .U)] 1 [] 1) [(.exit 0,tm [(0,.c (.sl bf .bD)),(1,.I),(7,.D .bool),(8,.R 0 20 0 .U)] [] [(0,20,.row 0 .U)] 1 [] 1)]
theorem ak1:lpT (Wy N) (Hk N):=lpI
def jc:Nat->List Instr×List Bool×Bool×Int×tmI×Int×tmI->Option (List Instr×List Bool×Bool×Int×tmI)|0,_=>none|k+1,(e,f,i,b,c,d,a)=>(cond (d<c.length) ((idx f b).bind λp=>some p) (some false)).bind λq=>cond q ((idx c d).bind λj=>aK (gB j a.length) ((a[j.toNat]?).bind λl=>aK (gB b a.length) ((a[b.toNat]?).bind λm=>(idx e b).bind λg=>(Ww N (g.1,g.2.1,g.2.2.1,g.2.2.2)).bind λn=>(idx c d).bind λo=>aK (gB o a.length) ((a[o.toNat]?).bind λr=>cond ((vI .u64 l (DW .u64 m n))!=r) ((idx c d).bind λh=>aK (gB h a.length) ((a[h.toNat]?).bind λs=>jc k (e,f,true,b,c,(av (d+1)),(a.set h.toNat (vI .u64 l (DW .u64 m n)))))) (jc k (e,f,i,b,c,(av (d+1)),a)))))) (e,f,i,b,a)
def Wz:=(Wy N).l N 28 (tm [(0,.c (.sl bf .bD)),(7,.D .bool),(8,.R 0 20 0 .U),(10,.Q),(11,.I),(12,.D .I),(13,.I)] [] [(0,20,.row 0 .U)] 1 [] 1) [(.exit 6,tm [(0,.c (.sl bf .bD)),(7,.D .bool),(8,.R 0 20 0 .U),(10,.Q),(11,.I)] [] [(0,20,.row 0 .U)] 1 [] 1)]
theorem ak2:lpT (Wz N) (jc N):=lpI
def kT:Nat->List Instr×List Bool×Bool×Int×tmI->Option (List Instr×List Bool×Bool×tmI)|0,_=>none|k+1,(b,d,e,c,f)=>cond (c<b.length) ((Sr N (b,c)).bind λg=>(jc N N (b,d,e,c,g,0,f)).bind λa=>kT k (a.1,a.2.1,a.2.2.1,(av (a.2.2.2.1+1)),a.2.2.2.2)) (b,d,e,f)
def WA:=(Wz N).l N 21 (tm [(0,.c (.sl bf .bD)),(7,.D .bool),(8,.R 0 20 0 .U),(10,.Q),(11,.I)] [] [(0,20,.row 0 .U)] 1 [] 1) [(.exit 4,tm [(0,.c (.sl bf .bD)),(7,.D .bool),(8,.R 0 20 0 .U),(10,.Q)] [] [(0,20,.row 0 .U)] 1 [] 1)]
theorem ak3:lpT (WA N) (kT N):=lpJ λk=>funext λ⟨a,b,c,d,e⟩=>by rw[kT,ak2 N N];kernel_rfl
def uO:Nat->List Instr×List Bool×Bool×tmI->Option (List Instr×List Bool×tmI)|0,_=>none|k+1,(b,c,e,d)=>cond e ((kT N N (b,c,false,0,d)).bind λa=>uO k (a.1,a.2.1,a.2.2.1,a.2.2.2)) (b,c,d)
def WB:=(WA N).l N 14 (tm [(0,.c (.sl bf .bD)),(7,.D .bool),(8,.R 0 20 0 .U),(10,.Q)] [] [(0,20,.row 0 .U)] 1 [] 1) [(.exit 2,tm [(0,.c (.sl bf .bD)),(7,.D .bool),(8,.R 0 20 0 .U)] [] [(0,20,.row 0 .U)] 1 [] 1)]
theorem ak4:lpT (WB N) (uO N):=lpJ λk=>funext λ⟨a,b,c,d⟩=>by rw[uO,ak3 N N];kernel_rfl
def uR(N:Nat):Nat->List Instr×List Bool×Int×tmI->Option tmI|0,_=>none|k+1,(c,d,a,b)=>cond (a<c.length) (((idx d a).bind λe=>cond (!e) (some true) (some (a==(av ((c.length:Int)-1))))).bind λf=>cond f (aK (gB a b.length) ((b[a.toNat]?).bind λg=>uR N k (c,d,(av (a+1)),(b.set a.toNat 0)))) (uR N k (c,d,(av (a+1)),b))) b
def auz:=(WB N).l N 40 (tm [(0,.c (.sl bf .bD)),(7,.D .bool),(8,.R 0 20 0 .U),(15,.I)] [] [(0,20,.row 0 .U)] 1 [] 1) [(.exit 8,tm [(8,.R 0 20 0 .U)] [] [(0,20,.row 0 .U)] 1 [] 1)]
theorem ak6:lpT (auz N) (uR N):=lpI
def LU:List Instr×Int×Int->Option tmI|(a,d,e)=>(Ss N a).bind λf=>aK (decide (0<=(a.length:Int))) (aK (decide (0<=(a.length:Int))) (aK (decide ((Int.toNat (a.length:Int))<=(Int.toNat (a.length:Int)))&&room (Int.toNat (a.length:Int)) 8) ((Hk N N (a,d,e,f,0,(List.replicate (Int.toNat (a.length:Int)) (0:Int)))).bind λb=>(Sz N b.2.1).bind λg=>aK (gB 0 b.2.2.2.length) ((b.2.2.2[(Int.toNat 0)]?).bind λi=>(uO N N (b.1,b.2.2.1,true,(b.2.2.2.set (Int.toNat 0) g))).bind λc=>(uR N N (c.1,c.2.1,0,c.2.2)).bind λh=>h))))
def agI:=(auz N).p (LU N) (by delta LU;rw[ak1 N N,ak4 N N,ak6 N N];kernel_rfl)
def WE:=(agI N).on 119 ⟨[.agg (cP aW),.I],[tmf [.I],tmf [.I]],0,[(0,5,38,.bool),(0,15,10,.I)],[],[],[]⟩
def Hm:Nat->Int×List Bool×Int×Int×dS->Option ((Int×Int)⊕(Int×dS))|0,_=>none|k+1,(b,g,h,a,c,d,e,i,j,l,m,f,n,o)=>cond (a<f.length) (((idx g a).bind λq=>cond q ((Sx N (c,d,e,b,a,true)).bind λr=>some r) ((Sx N (c,d,e,b,a,(a==h))).bind λs=>some s)).bind λp=>cond (p !=0) (some (Sum.inl (a,p))) (Hm k (b,g,h,(av (a+1)),c,d,e,i,j,l,m,f,n,o))) (some (Sum.inr (b,c,d,e,i,j,l,m,f,n,o)))
def WG:=(WE N).l N 11 (tm [(1,.I),(2,.P 0 2 0),(6,.P 0 6 1),(7,.D .bool),(8,.I),(9,.I)] [] [(0,2,.box 0 (cP aW)),(0,6,.box 1 (bg dQ))] 1 [] 2) [tmr [(4,.I),(5,.I)],(.exit 0,tm [(1,.I),(2,.P 0 2 0),(6,.P 0 6 1)] [] [(0,2,.box 0 (cP aW)),(0,6,.box 1 (bg dQ))] 1 [] 2)]
theorem ak7:lpT (WG N) (Hm N):=lpI
def uS(N:Nat):Nat->tmI×Int×tmI×Int×ic->Option ((Int×Int)⊕(tmI×Int×ic))|0,_=>none|k+1,(b,a,c,d,e,f,g,h,i,j,l)=>cond (d<c.length) ((idx b a).bind λn=>(idx c d).bind λm=>aK (!(m<0)) (cond ((Int.tmod (Int.fdiv n (2^min m.toNat 64)) 2)==0) (some (Sum.inl (a,38))) (uS N k (b,a,c,(av (d+1)),e,f,g,h,i,j,l)))) (some (Sum.inr (b,a,e,f,g,h,i,j,l)))
def WJ:=(WG N).l N 34 (tm [(6,.P 0 6 0),(13,.D .U),(14,.I),(15,.D .I),(17,.I)] [] [(0,6,.box 0 (bg dQ))] 1 [] 1) [tmr [(4,.I),(5,.I)],(.exit 4,tm [(6,.P 0 6 0),(13,.D .U),(14,.I)] [] [(0,6,.box 0 (bg dQ))] 1 [] 1)]
theorem ak8:lpT (WJ N) (uS N):=lpI
def uT:Nat->tmI×Int×ic->Option ((Int×Int)⊕Unit)|0,_=>none|k+1,(f,c,g,h,i,j,d,l,m)=>cond (c<d.length) ((idx d c).bind λb=>(OG N (b.1,b.2.1,b.2.2.1,b.2.2.2)).bind λn=>(uS N N (f,c,n.1,0,g,h,i,j,d,l,m)).bind λo=>match o with|.inl e=>some (Sum.inl (e.1,e.2))|.inr a=>uT k (a.1,(av (a.2.1+1)),a.2.2.1,a.2.2.2.1,a.2.2.2.2.1,a.2.2.2.2.2.1,a.2.2.2.2.2.2.1,a.2.2.2.2.2.2.2.1,a.2.2.2.2.2.2.2.2)) (some (Sum.inr ()))
def auA:=(WJ N).l N 27 (tm [(6,.P 0 6 0),(13,.D .U),(14,.I)] [] [(0,6,.box 0 (bg dQ))] 1 [] 1) [tmr [(4,.I),(5,.I)],(.exit 2,tmz)]
theorem ak9:lpT (auA N) (uT N):=lpJ λk=>funext λ⟨a,b,c,d,e,f,g,h,i⟩=>by rw[uT,ak8 N N];kernel_rfl
def WK:bT Int->Option (Int×Int)|(g,h,d,c)=>(idx d c).bind λb=>(Wa N b.2.2.2.2.1).bind λi=>cond (i !=0) (some ((-1),12)) ((cond (c==0) (cond (b.2.1!=0) (some true) (some (b.2.2.1!=(-1)))) (some false)).bind λj=>cond j (some ((-1),30)) ((Ss N b.2.2.2.2.1).bind λl=>(Hm N N (c,l,(av ((b.2.2.2.2.1.length:Int)-1)),0,g,h,d,b.1,b.2.1,b.2.2.1,b.2.2.2.1,b.2.2.2.2.1,b.2.2.2.2.2.1,b.2.2.2.2.2.2)).bind λm=>match m with|.inl e=>(e.1,e.2)|.inr a=>(OI N (a.2.1,a.2.2.1,a.2.2.2.1,a.1)).bind λn=>cond (!n.2) (some ((-1),36)) ((LU N (a.2.2.2.2.2.2.2.2.1,a.2.2.2.2.2.1,(a.2.2.2.2.2.2.2.1.length:Int))).bind λo=>(uT N N (o,0,a.2.2.2.2.1,a.2.2.2.2.2.1,a.2.2.2.2.2.2.1,a.2.2.2.2.2.2.2.1,a.2.2.2.2.2.2.2.2.1,a.2.2.2.2.2.2.2.2.2.1,a.2.2.2.2.2.2.2.2.2.2)).bind λp=>match p with|.inl f=>(f.1,f.2)|.inr q=>some (0,0))))
def agK:=(auA N).p (WK N) (by delta WK;rw[ak7 N N,ak9 N N];kernel_rfl)
def WL:=(agK N).on 120 ⟨[.agg (cP aW),.I],[(true,(bg dQ))],0,[],[(1011000,4)],[(1011000,9,.str),(1011000,26,dh),(1011000,31,bf),(1011000,36,iN),(1011000,41,iN),(1011000,49,dQ),(0,11,dQ),(0,36,.U)],[]⟩
def Hn(N:Nat):Nat->Int×bT (bT (bT (List UInt8×Int×Int)))->Option (bT (bT (List UInt8×Int×Int)))|0,_=>none|k+1,(b,n,o,c,e,f,d,g,h,i,j,l,m)=>cond (b<c.length) ((idx c b).bind λa=>aK (room (0+a.2.2.2.1.length) 24) (aK (room (0+a.2.2.2.2.1.length) 32) (aK (room (0+a.2.2.2.2.2.1.length) 16) (aK (room (0+a.2.2.2.2.2.2.length) 16) (aK (room (d.length+1) 128) (Hn N k ((av (b+1)),n,o,c,e,f,(d++[(a.1,a.2.1,a.2.2.1,([]++a.2.2.2.1),([]++a.2.2.2.2.1),([]++a.2.2.2.2.2.1),([]++a.2.2.2.2.2.2))]),g,h,i,j,l,m))))))) (e,f,d,g,h,i,j,l,m)
def WM:=(WL N).L N 1011000 100004 38 4 (tm [(1,.P 1 1 0),(2,.P 1 2 1),(3,.P 1 3 2),(4,.I)] [[(2,.P 0 2 3),(4,.P 0 4 4)]] [(1,1,.box 0 (cP aW)),(1,2,.box 1 [.nil true,.nil true,.nil true]),(1,3,.box 2 [.D bK,.A .str 5,.ref 1 50 6 dQ]),(1,50,.row 6 dQ),(0,2,.box 3 (cP aW)),(0,4,.box 4 [.str,.I,.I,.nil true,.nil true,.nil true,.nil true])] 2 [5] 7) [(.exit 0,tm [(2,.P 1 2 0),(3,.P 1 3 1)] [[(2,.P 0 2 2),(4,.P 0 4 3)]] [(1,2,.box 0 [.nil true,.nil true,.nil true]),(1,3,.box 1 [.D bK,.A .str 4,.ref 1 50 5 dQ]),(1,50,.row 5 dQ),(0,2,.box 2 (cP aW)),(0,4,.box 3 [.str,.I,.I,.nil true,.nil true,.nil true,.nil true])] 2 [4] 6)]
theorem al0:lpT (WM N) (Hn N):=lpI
def uU:Nat->List tmI×tmI×Int×bT (List UInt8×Int×Int×ic)->Option (tmI×List UInt8×Int×Int×ic)|0,_=>none|k+1,(a,b,c,d,e,f,g,h,i,j,l,m,n,o,p,q)=>cond (c<a.length) ((idx a c).bind λr=>(OH N (d,e,f,r)).bind λs=>aK (room (b.length+1) 8) (uU k (a,(b++[(aS s)]),(av (c+1)),d,e,f,g,h,i,j,l,m,n,o,p,q))) (b,g,h,i,j,l,m,n,o,p,q)
def auB:=(WM N).l N 6 (tm [(2,.P 0 2 0),(4,.P 0 4 1),(5,.P 0 5 2),(6,.D (.sl .I)),(8,.A .U 3),(9,.I)] [] [(0,2,.box 0 (cP aW)),(0,4,.box 1 [.str,.I,.I,.nil true,.nil true,.nil true,.nil true]),(0,5,.box 2 (bg dQ))] 1 [3] 4) [(.exit 0,tm [(4,.P 0 4 0),(5,.P 0 5 1),(8,.A .U 2)] [] [(0,4,.box 0 [.str,.I,.I,.nil true,.nil true,.nil true,.nil true]),(0,5,.box 1 (bg dQ))] 1 [2] 3)]
theorem al2:lpT (auB N) (uU N):=lpI
def WN:bT Int->Option ic|(j,g,h,i)=>(F77 N j).bind λl=>aK (room (0+g.length) 16) (cond (0<(h.length:Int)) ((idx h 0).bind λa=>aK (room (0+a.2.2.2.1.length) 24) (aK (room (0+a.2.2.2.2.1.length) 32) (aK (room (0+a.2.2.2.2.2.1.length) 16) (aK (room (0+a.2.2.2.2.2.2.length) 16) (aK (room 1 128) ((Hn N N (1,j,g,h,l,([]++g),[(a.1,a.2.1,a.2.2.1,([]++a.2.2.2.1),([]++a.2.2.2.2.1),([]++a.2.2.2.2.2.1),([]++a.2.2.2.2.2.2))],j,g,h,([]:List UInt8),0,0)).bind λb=>aK (gB i b.2.2.1.length) ((b.2.2.1[i.toNat]?).bind λe=>(OI N (b.2.2.2.1,b.2.2.2.2.1,b.2.2.2.2.2.1,i)).bind λm=>(uU N N (m.1,[],0,b.2.2.2.1,b.2.2.2.2.1,b.2.2.2.2.2.1,b.2.2.2.2.2.2.1,b.2.2.2.2.2.2.2.1,b.2.2.2.2.2.2.2.2,e.1,e.2.1,e.2.2.1,e.2.2.2.1,e.2.2.2.2.1,e.2.2.2.2.2.1,e.2.2.2.2.2.2)).bind λc=>(LJ N c.1).bind λn=>(LU N (c.2.2.2.2.2.2.2.2.1,c.2.2.2.2.2.1,(c.2.2.2.2.2.2.2.1.length:Int))).bind λo=>(LJ N o).bind λp=>(c.2.2.2.2.1,c.2.2.2.2.2.1,c.2.2.2.2.2.2.1,c.2.2.2.2.2.2.2.1,c.2.2.2.2.2.2.2.2.1,n,p)))))))) (aK (gB i ([]:List ic).length) ((([]:List ic)[i.toNat]?).bind λf=>(OI N (j,g,h,i)).bind λq=>(uU N N (q.1,[],0,j,g,h,([]:List UInt8),0,0,f.1,f.2.1,f.2.2.1,f.2.2.2.1,f.2.2.2.2.1,f.2.2.2.2.2.1,f.2.2.2.2.2.2)).bind λd=>(LJ N d.1).bind λr=>(LU N (d.2.2.2.2.2.2.2.2.1,d.2.2.2.2.2.1,(d.2.2.2.2.2.2.2.1.length:Int))).bind λs=>(LJ N s).bind λt=>(d.2.2.2.2.1,d.2.2.2.2.2.1,d.2.2.2.2.2.2.1,d.2.2.2.2.2.2.2.1,d.2.2.2.2.2.2.2.2.1,r,t))))
def agM:=(auB N).p (WN N) (by delta WN;rw[al0 N N,al2 N N];kernel_rfl)
def WO:=(agM N).on 115 (sg [.c (.sl dh .bD),.c (.sl dh .bD)] [tmf [.bool]])
def H0(N:Nat):Nat->List Field×List Field×Int->Option (Bool⊕Unit)|0,_=>none|k+1,(b,c,a)=>cond (a<b.length) ((idx b a).bind λd=>(idx c a).bind λe=>cond (!(d.1==e.1&&(d.2==e.2&&true))) (some (Sum.inl false)) (H0 N k (b,c,(av (a+1))))) (some (Sum.inr ()))
def auC:=(WO N).l N 6 (tmn [(0,.c (.sl dh .bD)),(1,.c (.sl dh .bD)),(5,.I)]) [tmr [(4,.Q)],tmx]
theorem al3:lpT (auC N) (H0 N):=lpI
def SA:List Field×List Field->Option Bool|(a,b)=>cond ((a.length:Int)!=(b.length:Int)) false ((H0 N N (a,b,0)).bind λc=>match c with|.inl d=>d|.inr e=>true)
def agO:=(auC N).p (SA N) (by delta SA;rw[al3 N N];kernel_rfl)
def WQ:=(agO N).on 116 (sg [.c (.sl bf .bD),.c (.sl bf .bD)] [tmf [.bool]])
def H1(N:Nat):Nat->List Instr×List Instr×Int->Option (Bool⊕Unit)|0,_=>none|k+1,(d,e,a)=>cond (a<d.length) ((idx d a).bind λb=>(idx e a).bind λc=>cond (!(b.1==c.1&&(b.2.1==c.2.1&&(b.2.2.1==c.2.2.1&&(b.2.2.2==c.2.2.2&&true))))) (some (Sum.inl false)) (H1 N k (d,e,(av (a+1))))) (some (Sum.inr ()))
def auD:=(WQ N).l N 6 (tmn [(0,.c (.sl bf .bD)),(1,.c (.sl bf .bD)),(5,.I)]) [tmr [(4,.Q)],tmx]
theorem al5:lpT (auD N) (H1 N):=lpI
def WR:List Instr×List Instr->Option Bool|(a,b)=>cond ((a.length:Int)!=(b.length:Int)) false ((H1 N N (a,b,0)).bind λc=>match c with|.inl d=>d|.inr e=>true)
def agQ:=(auD N).p (WR N) (by delta WR;rw[al5 N N];kernel_rfl)
def WS:=(agQ N).on 117 (sg [.c (.sl iN .bD),.c (.sl iN .bD)] [tmf [.bool]])
def H2(N:Nat):Nat->List fA×List fA×Int->Option (Bool⊕Unit)|0,_=>none|k+1,(b,c,a)=>cond (a<b.length) ((idx b a).bind λd=>(idx c a).bind λe=>cond (!(d.1==e.1&&(d.2==e.2&&true))) (some (Sum.inl false)) (H2 N k (b,c,(av (a+1))))) (some (Sum.inr ()))
def auE:=(WS N).l N 6 (tmn [(0,.c (.sl iN .bD)),(1,.c (.sl iN .bD)),(5,.I)]) [tmr [(4,.Q)],tmx]
theorem al6:lpT (auE N) (H2 N):=lpI
def SB:List fA×List fA->Option Bool|(a,b)=>cond ((a.length:Int)!=(b.length:Int)) false ((H2 N N (a,b,0)).bind λc=>match c with|.inl d=>d|.inr e=>true)
def amE:=(auE N).p (SB N) (by delta SB;rw[al6 N N];kernel_rfl)
def F66:akV ic->Option Bool|(a,b,c,d,e,f,g,h,i,j,l,m,n,o)=>(cond (a==h) (cond (b==i) (cond (c==j) ((SA N (d,l)).bind λp=>cond p ((WR N (e,m)).bind λq=>cond q ((SB N (f,n)).bind λr=>cond r ((SB N (g,o)).bind λs=>some s) (some false)) (some false)) (some false)) (some false)) (some false)) (some false)).bind λt=>t
def G66:=((amE N).on 66 ⟨[.agg (cP dQ),.agg (cP dQ)],[tmf [.bool]],0,[(0,1,4,.bool)],[],[],[]⟩).p (F66 N)
def F80:bT Int->Option (Int×Int)|(f,g,d,e)=>(WK N (f,g,d,e)).bind λc=>cond (c.2==0) ((WN N (f,g,d,e)).bind λa=>(idx d e).bind λb=>(F66 N (a.1,a.2.1,a.2.2.1,a.2.2.2.1,a.2.2.2.2.1,a.2.2.2.2.2.1,a.2.2.2.2.2.2,b.1,b.2.1,b.2.2.1,b.2.2.2.1,b.2.2.2.2.1,b.2.2.2.2.2.1,b.2.2.2.2.2.2)).bind λh=>cond (!h) (some ((-1),32)) (c.1,c.2)) (c.1,c.2)
def G80:=((G66 N).on 80 (sg [.agg (cP aW),.I] [tmf [.I],tmf [.I]])).p (F80 N)
def adU:=(G80 N).on 42 (sg [.agg (cP aW)] [tmf [.I],tmf [.I],tmf [.I]])
def H3:Nat->Int×cZ->Option ((Int×Int×Int)⊕Unit)|0,_=>none|k+1,(a,d,e,b)=>cond (a<b.length) ((F80 N (d,e,b,a)).bind λc=>cond (c.2!=0) (some (Sum.inl (a,c.1,c.2))) (H3 k ((av (a+1)),d,e,b))) (some (Sum.inr ()))
def axk:=(adU N).l N 7 (tm [(1,.P 0 1 0),(6,.I)] [] [(0,1,.box 0 (cP aW))] 1 [] 1) [tmr [(2,.I),(3,.I),(4,.I)],tmx]
theorem al8:lpT (axk N) (H3 N):=lpI
def F42:cZ->Option (Int×Int×Int)|(b,c,d)=>(F79 N (b,c,d)).bind λe=>cond (e !=0) (some (0,0,e)) ((H3 N N (0,b,c,d)).bind λf=>match f with|.inl a=>(a.1,a.2.1,a.2.2)|.inr g=>some (0,0,0))
def G42:=(axk N).p (F42 N) (by delta F42;rw[al8 N N];kernel_rfl)
def F17:cZ->Option Int|(a,b,c)=>(F42 N (a,b,c)).bind λd=>d.2.2
def G17:=((G42 N).on 17 (sg [.agg (cP aW)] [tmf [.I]])).p (F17 N)
def F45(N:Nat):Unit->Option (Int×tmI)|()=>some (65536,[])
def G45:=((G17 N).on 45 (sg [] [(true,(bg bp))])).p (F45 N)
def F19(N:Nat):Int×tmI->Option Bool|(b,a)=>(cond (b==65536) (cond ((Int.tmod (a.length:Int) 8)==0) (some (decide ((a.length:Int)<=16384))) (some false)) (some false)).bind λc=>c
def G19:=((G45 N).on 19 ⟨[.agg (cP bp)],[tmf [.bool]],0,[(0,1,2,.bool)],[],[],[]⟩).p (F19 N)
def WT:Int×tmI×Int->Option Int|(b,c,a)=>(F19 N (b,c)).bind λd=>cond (!d) (some 8) ((cond (a<0) (some true) (some (decide (a>16384)))).bind λe=>cond e (some 2) (some 0))
def agS:=((G19 N).on 127 ⟨[.agg (cP bp),.I],[tmf [.I]],0,[(0,4,13,.bool)],[],[],[]⟩).p (WT N)
def WU:=(agS N).on 195 (sg [.I] [tmf [.I]])
def H4(N:Nat):Nat->Int×Int->Option Int|0,_=>none|k+1,(b,a)=>cond ((av (8*a))<b) (H4 N k (b,(av (a+1)))) a
def auH:=(WU N).l N 3 (tmn [(0,.I),(3,.I)]) [(.exit 0,tmn [(3,.I)])]
theorem al9:lpT (auH N) (H4 N):=lpI
def SC:Int->Option Int|a=>(H4 N N (a,1)).bind λb=>some (av (8*b))
def amK:=(auH N).p (SC N) (by delta SC;rw[al9 N N];kernel_rfl)
def abN:Int×tmI×Int×Int->Option Bool|(e,a,b,c)=>(SC N b).bind λd=>some (decide ((av ((a.length:Int)+d))<=c))
def amN:=((amK N).on 128 (sg [.agg (cP bp),.I,.I] [tmf [.bool]])).p (abN N)
def WV(N:Nat):Int×tmI->Option (Int×tmI)|(b,a)=>aK (room (0+a.length) 1) (some (b,([]++a)))
def agU:=((amN N).on 196 ⟨[.agg (cP bp)],[(true,(bg bp))],2,[],[],[(0,5,.B)],[]⟩).p (WV N)
def WW:=(agU N).on 129 ⟨[.agg (cP bp),.I],[(true,(bg bp)),tmf [.U]],2,[],[],[(0,18,.B)],[]⟩
def H5:Nat->Int×Int×Int×tmI×Int×Int×tmI->Option (Int×tmI×Int×Int×tmI)|0,_=>none|k+1,(b,c,d,e,f,g,a)=>(SC N b).bind λh=>cond (c<h) (aK (room (a.length+1) 1) (H5 k (b,(av (c+1)),d,e,f,g,(a++[0])))) (d,e,f,g,a)
def auI:=(WW N).l N 4 (tm [(1,.I),(2,.P 0 2 0),(4,.P 0 4 1),(6,.P 0 6 2),(7,.I)] [] [(0,2,.box 0 (cP bp)),(0,4,.box 1 [.U,.nil true]),(0,6,.box 2 [.U,.ref 0 9 3 .B]),(0,9,.row 3 .B)] 1 [] 4) [(.exit 0,tm [(2,.P 0 2 0),(4,.P 0 4 1),(6,.P 0 6 2)] [] [(0,2,.box 0 (cP bp)),(0,4,.box 1 [.U,.nil true]),(0,6,.box 2 [.U,.ref 0 9 3 .B]),(0,9,.row 3 .B)] 1 [] 4)]
theorem am0:lpT (auI N) (H5 N):=lpI
def WX:Int×tmI×Int->Option (Int×tmI×Int)|(b,c,e)=>(WV N (b,c)).bind λd=>(H5 N N (e,0,b,c,0,d.1,d.2)).bind λa=>some (a.2.2.2.1,a.2.2.2.2,(aS (65536+(aS (a.2.1.length:Int)))))
def amR:=(auI N).p (WX N) (by delta WX;rw[am0 N N];kernel_rfl)
def F84:Int×tmI×Int×Int->Option (Int×tmI×Int×Int)|(a,b,c,d)=>(WT N (a,b,d)).bind λf=>cond (f !=0) ((WT N (a,b,d)).bind λg=>some (0,[],0,g)) ((cond (c<0) (some true) (some (decide (c>4096)))).bind λh=>cond h (some (0,[],0,2)) ((abN N (a,b,c,d)).bind λi=>cond (!i) (some (0,[],0,18)) ((WX N (a,b,c)).bind λe=>some (e.1,e.2.1,e.2.2,0))))
def G84:=((amR N).on 84 ⟨[.agg (cP bp),.I,.I],[(true,(bg bp)),tmf [.U],tmf [.I]],2,[(0,4,24,.bool)],[],[],[]⟩).p (F84 N)
def adV:=(G84 N).on 46 (sg [.agg (cP bp),.c (.sl .B .bD),.I] [(true,(bg bp)),tmf [.U],tmf [.I]])
def Id(N:Nat):Nat->tmI×Int×Int×Int×tmI×Int×Int×tmI->Option (Int×Int×Int×tmI)|0,_=>none|k+1,(d,e,a,h,b,f,g,c)=>cond (a<d.length) ((idx d a).bind λi=>aK (gB (av ((b.length:Int)+a)) c.length) ((c[(Int.toNat (av ((b.length:Int)+a)))]?).bind λj=>Id N k (d,e,(av (a+1)),h,b,f,g,(c.set (Int.toNat (av ((b.length:Int)+a))) i)))) (e,f,g,c)
def axz:=(adV N).l N 7 (tm [(1,.c (.sl .B .bD)),(3,.P 0 3 0),(6,.P 0 6 1),(9,.P 0 9 2),(10,.U),(12,.I)] [] [(0,3,.box 0 (cP bp)),(0,6,.box 1 [.U,.nil true]),(0,9,.box 2 [.U,.ref 0 18 3 .B]),(0,18,.row 3 .B)] 1 [] 4) [(.exit 0,tm [(6,.P 0 6 0),(9,.P 0 9 1),(10,.U)] [] [(0,6,.box 0 [.U,.nil true]),(0,9,.box 1 [.U,.ref 0 18 2 .B]),(0,18,.row 2 .B)] 1 [] 3)]
theorem am1:lpT (axz N) (Id N):=lpI
def F46:Int×tmI×tmI×Int->Option (Int×tmI×Int×Int)|(c,d,e,f)=>(F84 N (c,d,(e.length:Int),f)).bind λa=>cond (a.2.2.2!=0) (some (0,[],0,a.2.2.2)) ((Id N N (e,a.2.2.1,0,c,d,0,a.1,a.2.1)).bind λb=>some (b.2.2.1,b.2.2.2,b.1,0))
def G46:=(axz N).p (F46 N) (by delta F46;rw[am1 N N];kernel_rfl)
def adW:=(G46 N).on 21 ⟨[.c (.sl .str .bD),.I],[(true,(bg bp)),tmf [.D .U],tmf [.I]],0,[(0,1,19,.bool)],[],[(0,64,.U)],[]⟩
def If(N:Nat):Nat->List (List UInt8)×Int×Int×Int->Option ((Int×Int)⊕(List (List UInt8)×Int×Int))|0,_=>none|k+1,(a,c,b,d)=>cond (b<a.length) ((idx a b).bind λe=>cond ((e.length:Int)>64) (some (Sum.inl (2,0))) (If N k (a,c,(av (b+1)),d))) (some (Sum.inr (a,c,d)))
def adX:=(adW N).l N 9 (tm [(0,.c (.sl .str .bD)),(1,.I),(4,.P 0 4 0),(7,.I)] [] [(0,4,.box 0 [.U,.nil true])] 1 [] 1) [(.ret,tm [(4,.P 0 4 0),(5,.N),(6,.I)] [] [(0,4,.box 0 [.U,.nil true])] 1 [] 1),(.exit 0,tm [(0,.c (.sl .str .bD)),(1,.I),(4,.P 0 4 0)] [] [(0,4,.box 0 [.U,.nil true])] 1 [] 1)]
theorem am2:lpT (adX N) (If N):=lpI
def kU:Nat->List (List UInt8)×Int×tmI×Int×Int×Int×tmI->Option ((Int×Int)⊕(tmI×Int×Int×tmI))|0,_=>none|k+1,(b,e,c,d,f,g,h)=>cond (d<b.length) ((idx b d).bind λi=>(F46 N (g,h,(bP i),e)).bind λa=>cond (a.2.2.2!=0) (some (Sum.inl (a.2.2.2,0))) (aK (room (c.length+1) 8) (kU k (b,e,(c++[a.2.2.1]),(av (d+1)),f,a.1,a.2.1)))) (some (Sum.inr (c,f,g,h)))
def axB:=(adX N).l N 21 (tm [(0,.c (.sl .str .bD)),(1,.I),(4,.P 0 4 0),(8,.P 0 8 1),(9,.A .U 2),(10,.I)] [] [(0,4,.box 0 [.U,.nil true]),(0,8,.box 1 (bg bp))] 1 [2] 3) [(.ret,tm [(4,.P 0 4 0),(5,.N),(6,.I)] [] [(0,4,.box 0 [.U,.nil true])] 1 [] 1),(.exit 2,tm [(4,.P 0 4 0),(8,.P 0 8 1),(9,.A .U 2)] [] [(0,4,.box 0 [.U,.nil true]),(0,8,.box 1 (bg bp))] 1 [2] 3)]
theorem am3:lpT (axB N) (kU N):=lpI
def F21:List (List UInt8)×Int->Option (Int×tmI×tmI×Int)|(d,a)=>(cond (a<0) (some true) (some (decide (a>16384)))).bind λh=>cond h (some (0,[],[],2)) (cond ((d.length:Int)>32) (some (0,[],[],4)) ((If N N (d,a,0,0)).bind λi=>match i with|.inl e=>some (e.2,[],[],e.1)|.inr b=>(F45 N ()).bind λf=>(kU N N (b.1,b.2.1,[],0,b.2.2,f.1,f.2)).bind λj=>match j with|.inl g=>some (g.2,[],[],g.1)|.inr c=>some (c.2.2.1,c.2.2.2,c.1,0)))
def G21:=(axB N).p (F21 N) (by delta F21;rw[am2 N N,am3 N N];kernel_rfl)
def WY:List aB×List Field->Option (tmI×Int×Int)|(c,d)=>(OC N c).bind λb=>(OB N (b.1,b.2,d)).bind λa=>(a.1,a.2.1,a.2.2)
def agW:=((G21 N).on 121 (sg [.c (.sl bK .bD),.c (.sl dh .bD)] [tmf [.D .I],tmf [.I],tmf [.I]])).p (WY N)
def adY:=(agW N).on 73 ⟨[.agg (cP aW),.I],[tmf [.D .I],tmf [.I]],0,[],[],[(0,26,.I)],[]⟩
def uV(N:Nat):Nat->tmI×Int×Int×tmI->Option (Int×tmI)|0,_=>none|k+1,(c,d,a,b)=>cond (a<c.length) ((idx c a).bind λe=>aK (gB a b.length) ((b[a.toNat]?).bind λf=>uV N k (c,d,(av (a+1)),(b.set a.toNat (av (24+e)))))) (d,b)
def axE:=(adY N).l N 5 (tm [(6,.D .I),(7,.I),(9,.R 0 26 0 .I),(10,.I)] [] [(0,26,.row 0 .I)] 1 [] 1) [(.exit 0,tm [(7,.I),(9,.R 0 26 0 .I)] [] [(0,26,.row 0 .I)] 1 [] 1)]
theorem am4:lpT (axE N) (uV N):=lpI
def F73:bT Int->Option (tmI×Int)|(c,h,d,e)=>(idx d e).bind λf=>(WY N (c,f.2.2.2.1)).bind λa=>aK (decide (0<=(a.1.length:Int))) (aK (decide (0<=(a.1.length:Int))) (aK (decide ((Int.toNat (a.1.length:Int))<=(Int.toNat (a.1.length:Int)))&&room (Int.toNat (a.1.length:Int)) 8) ((uV N N (a.1,a.2.1,0,(List.replicate (Int.toNat (a.1.length:Int)) (0:Int)))).bind λb=>(F76 N b.1).bind λg=>some (b.2,(av (24+g))))))
def G73:=(axE N).p (F73 N) (by delta F73;rw[am4 N N];kernel_rfl)
def F22(N:Nat):Int->Option Int|a=>some (aS (av (16777216*(av (a+1)))))
def G22:=((G73 N).on 22 (sg [.I] [tmf [.U]])).p (F22 N)
def LW(N:Nat):Int×Int->Option Bool|(a,b)=>(cond (a>=0) (some (decide (a<b))) (some false)).bind λc=>c
def amY:=((G22 N).on 359 ⟨[.I,.I],[tmf [.bool]],0,[(0,1,4,.bool)],[],[],[]⟩).p (LW N)
def abO(N:Nat):Int->Option Bool|a=>some (a !=0)
def agX:=((amY N).on 377 (sg [.I] [tmf [.bool]])).p (abO N)
def WZ:=(agX N).on 360 (sg [.c (.sl .I .bD)] [tmf [.bool]])
def uW:Nat->tmI×Int×Int->Option (Int⊕Unit)|0,_=>none|k+1,(b,c,a)=>cond (a<c) ((idx b a).bind λd=>(abO N d).bind λe=>cond e (some (Sum.inl a)) (uW k (b,c,(av (a+1))))) (some (Sum.inr ()))
def auO:=(WZ N).L N 1004001007000 3 101 3 (tm [(0,.c (.sl .I .bD)),(1,.fK 377 []),(7,.I),(8,.I)] [[],[]] [] 3 [] 0) [(.ret,tm [(4,.I)] [[],[]] [] 3 [] 0),(.exit 0,tm [] [[],[]] [] 3 [] 0)]
theorem am5:lpT (auO N) (uW N):=lpI
def LX:tmI->Option Bool|a=>(uW N N (a,(a.length:Int),0)).bind λb=>match b with|.inl c=>some (!(decide (c>=0)))|.inr d=>some (!(decide ((-1:Int)>=0)))
def agZ:=(auO N).p (LX N) (by delta LX;rw[am5 N N];kernel_rfl)
def W0:=(agZ N).on 356 ⟨[.T],[tmf [.bool]],0,[(0,1,17,.bool),(0,11,45,.bool)],[],[],[]⟩
def IH(N:Nat):Nat->tmI×Int×Int->Option (Bool⊕Unit)|0,_=>none|k+1,(c,d,b)=>cond (b<d) ((idx c b).bind λa=>(cond ((DW .u8 a 32)<97) (cond (a<48) (some true) (some (decide (a>57)))) (cond ((DW .u8 a 32)>122) (cond (a<48) (some true) (some (decide (a>57)))) (cond ((vI .u8 a 64)==0) (cond (a<48) (some true) (some (decide (a>57)))) (some false)))).bind λe=>cond e (some (Sum.inl false)) (IH N k (c,d,(av (b+1))))) (some (Sum.inr ()))
def auP:=(W0 N).l N 6 (tmn [(19,.D .B),(20,.I),(21,.I)]) [tmr [(2,.Q)],tmx]
theorem am6:lpT (auP N) (IH N):=lpI
def OJ:List UInt8->Option Bool|a=>(cond ((a.length:Int)==0) (some true) (cond ((a.length:Int)>16) (some true) ((idx a 0).bind λc0=>some (decide ((c0.toNat:Int)<=57))))).bind λb=>cond b false ((IH N N ((bP a),((bP a).length:Int),0)).bind λc=>match c with|.inl d=>d|.inr e=>true)
def ag1:=(auP N).p (OJ N) (by delta OJ;rw[am6 N N];kernel_rfl)
def W1:=(ag1 N).on 303 ⟨[.c (.sl bK .bD),.I],[tmf [.bool]],0,[(0,8,16,.bool),(0,6,16,.bool),(0,13,29,.bool)],[],[],[]⟩
def wU:Nat->Int×List Field×Int×Int×afV (List (List UInt8))->Option (Bool⊕zU)|0,_=>none|k+1,(c,d,e,b,f,g,h,i,j)=>cond (b<e) ((idx d b).bind λa=>(OJ N a.1).bind λl=>cond (!l) (some (Sum.inl false)) (cond (hasB j a.1) (some (Sum.inl false)) ((LW N (a.2,c)).bind λm=>cond (!m) (some (Sum.inl false)) (wU k (c,d,e,(av (b+1)),f,g,h,i,(tI j a.1)))))) (some (Sum.inr (f,g,h,i)))
def auQ:=(W1 N).l N 25 (tm [(1,.I),(5,.P 0 5 0),(6,.fK 359 []),(7,.c (.mp 0 70 1)),(72,.D dh),(73,.I),(74,.I)] [] [(0,5,.box 0 (bg bK)),(0,70,.set 1)] 1 [] 2) [tmr [(4,.Q)],(.exit 1,tm [(5,.P 0 5 0)] [] [(0,5,.box 0 (bg bK))] 1 [] 1)]
theorem am7:lpT (auQ N) (wU N):=lpI
def W4:List aB×Int->Option Bool|(d,c)=>(idx d c).bind λa=>(cond (a.1==1) (some true) ((cond (a.1==2) (some true) (some (a.1==3))).bind λe=>some e)).bind λf=>cond f ((LX N [a.2.1,a.2.2.1,(a.2.2.2.length:Int)]).bind λg=>g) ((cond (a.1==4) (some true) (some (a.1==7))).bind λh=>cond h ((LW N (a.2.1,(d.length:Int))).bind λi=>cond i ((LX N [a.2.2.1,(a.2.2.2.length:Int)]).bind λj=>j) false) (cond (a.1==6) ((LW N (a.2.1,c)).bind λl=>cond l ((LW N ((av (a.2.2.1-1)),16)).bind λm=>cond m ((LX N [(a.2.2.2.length:Int)]).bind λn=>n) false) false) (cond (a.1==5) ((wU N N (c,a.2.2.2,(a.2.2.2.length:Int),0,a.1,a.2.1,a.2.2.1,a.2.2.2,([]:List (List UInt8)))).bind λo=>match o with|.inl p=>p|.inr b=>(LX N [b.2.1,b.2.2.1]).bind λq=>cond q (cond ((b.2.2.2.length:Int)>0) (some (decide ((b.2.2.2.length:Int)<=8))) false) false) false)))
def ag3:=(auQ N).p (W4 N) (by delta W4;rw[am7 N N];kernel_rfl)
def W5:=(ag3 N).on 304 ⟨[.c (.sl bK .bD)],[tmf [.D .I]],0,[(0,26,7,.I),(0,23,7,.I),(0,20,7,.I)],[],[(0,12,.I),(0,17,.I)],[]⟩
def wV(N:Nat):Nat->List aB×Int×Int×Int×List aB×Int×Int×List Field×Int×Int×tmI×tmI->Option (List aB×Int×Int×Int×List aB×Int×Int×tmI×tmI)|0,_=>none|k+1,(c,d,e,f,g,h,i,j,l,b,m,a)=>cond (b<l) ((idx j b).bind λn=>aK (gB n.2 a.length) ((a[n.2.toNat]?).bind λo=>wV N k (c,d,(av (e+o)),f,g,h,i,j,l,(av (b+1)),m,a))) (c,d,e,f,g,h,i,m,a)
def W6:=(W5 N).l N 30 (tm [(0,.c (.sl bK .bD)),(3,.R 0 3 0 .I),(4,.R 0 17 1 .I),(5,.I),(7,.I),(13,.I),(18,.c (.sl bK .bD)),(19,.I),(20,.I),(59,.D dh),(60,.I),(61,.I)] [] [(0,3,.row 0 .I),(0,17,.row 1 .I)] 1 [] 2) [(.exit 5,tm [(0,.c (.sl bK .bD)),(3,.R 0 3 0 .I),(4,.R 0 17 1 .I),(5,.I),(7,.I),(13,.I),(18,.c (.sl bK .bD)),(19,.I),(20,.I)] [] [(0,3,.row 0 .I),(0,17,.row 1 .I)] 1 [] 2)]
theorem am9:lpT (W6 N) (wV N):=lpI
def jd:Nat->List aB×Int×List aB×Int×Int×tmI×tmI->Option (List aB×Int×tmI)|0,_=>none|k+1,(f,g,h,i,d,c,e)=>cond (d<i) ((idx h d).bind λb=>(cond (b.1==4) (aK (gB b.2.1 c.length) ((c[b.2.1.toNat]?).bind λj=>some (av (1+j)))) ((cond (b.1==7) (aK (gB b.2.1 c.length) ((c[b.2.1.toNat]?).bind λl=>some (av (1+(av (16*l)))))) ((cond (b.1==6) (aK (gB b.2.1 e.length) ((e[b.2.1.toNat]?).bind λm=>some (av (1+(av (b.2.2.1*m)))))) (some 1)).bind λn=>some n)).bind λo=>some o)).bind λp=>(wV N N (f,d,p,g,h,i,d,b.2.2.2,(b.2.2.2.length:Int),0,c,e)).bind λa=>aK (gB a.2.1 a.2.2.2.2.2.2.2.2.length) ((a.2.2.2.2.2.2.2.2[a.2.1.toNat]?).bind λq=>jd k (a.1,a.2.2.2.1,a.2.2.2.2.1,a.2.2.2.2.2.1,(av (a.2.2.2.2.2.2.1+1)),a.2.2.2.2.2.2.2.1,(a.2.2.2.2.2.2.2.2.set a.2.1.toNat (min a.2.2.1 5001))))) (f,g,e)
def W7:=(W6 N).l N 11 (tm [(0,.c (.sl bK .bD)),(3,.R 0 3 0 .I),(4,.R 0 17 1 .I),(13,.I),(18,.c (.sl bK .bD)),(19,.I),(20,.I)] [] [(0,3,.row 0 .I),(0,17,.row 1 .I)] 1 [] 2) [(.exit 2,tm [(0,.c (.sl bK .bD)),(4,.R 0 17 0 .I),(13,.I)] [] [(0,17,.row 0 .I)] 1 [] 1)]
theorem an1:lpT (W7 N) (jd N):=lpJ λk=>funext λ⟨a,b,c,d,e,f,g⟩=>by rw[jd,am9 N N];kernel_rfl
def kV:Nat->List aB×Int×tmI->Option tmI|0,_=>none|k+1,(a,c,d)=>cond (c<4) (aK (decide (0<=(a.length:Int))) (aK (decide (0<=(a.length:Int))) (aK (decide ((Int.toNat (a.length:Int))<=(Int.toNat (a.length:Int)))&&room (Int.toNat (a.length:Int)) 8) ((jd N N (a,c,a,(a.length:Int),0,d,(List.replicate (Int.toNat (a.length:Int)) (0:Int)))).bind λb=>kV k (b.1,(av (b.2.1+1)),b.2.2))))) d
def auR:=(W7 N).l N 4 (tm [(0,.c (.sl bK .bD)),(3,.R 0 3 0 .I),(13,.I)] [] [(0,3,.row 0 .I)] 1 [] 1) [(.exit 0,tm [(3,.R 0 3 0 .I)] [] [(0,3,.row 0 .I)] 1 [] 1)]
theorem an2:lpT (auR N) (kV N):=lpJ λk=>funext λ⟨a,b,c⟩=>by rw[kV,an1 N N];kernel_rfl
def W8:List aB->Option tmI|a=>aK (decide (0<=(a.length:Int))) (aK (decide (0<=(a.length:Int))) (aK (decide ((Int.toNat (a.length:Int))<=(Int.toNat (a.length:Int)))&&room (Int.toNat (a.length:Int)) 8) ((kV N N (a,0,(List.replicate (Int.toNat (a.length:Int)) (0:Int)))).bind λb=>b)))
def ag5:=(auR N).p (W8 N) (by delta W8;rw[an2 N N];kernel_rfl)
def W9:=(ag5 N).on 217 (sg [.c (.sl bK .bD)] [tmf [.I]])
def IO:Nat->List aB×Int×Int->Option (Int⊕(List aB))|0,_=>none|k+1,(a,c,b)=>cond (b<c) ((W4 N (a,b)).bind λd=>cond (!d) (some (Sum.inl 8)) (IO k (a,c,(av (b+1))))) (some (Sum.inr a))
def Xa:=(W9 N).l N 6 (tmn [(0,.c (.sl bK .bD)),(10,.I),(11,.I)]) [tmr [(2,.I)],(.exit 0,tmn [(0,.c (.sl bK .bD))])]
theorem an4:lpT (Xa N) (IO N):=lpI
def IR(N:Nat):Nat->tmI×Int×Int->Option (Int⊕Unit)|0,_=>none|k+1,(b,c,a)=>cond (a<c) ((idx b a).bind λd=>cond (d>5000) (some (Sum.inl 8)) (IR N k (b,c,(av (a+1))))) (some (Sum.inr ()))
def auS:=(Xa N).l N 17 (tmn [(20,.D .I),(21,.I),(22,.I)]) [tmr [(2,.I)],(.exit 2,tmz)]
theorem an5:lpT (auS N) (IR N):=lpI
def OK:List aB->Option Int|a=>cond ((a.length:Int)>32) (some 8) ((IO N N (a,(a.length:Int),0)).bind λc=>match c with|.inl d=>d|.inr e=>(W8 N e).bind λb=>(IR N N (b,(b.length:Int),0)).bind λf=>match f with|.inl g=>g|.inr h=>some 0)
def ag7:=(auS N).p (OK N) (by delta OK;rw[an4 N N,an5 N N];kernel_rfl)
def Xb:=(ag7 N).on 219 ⟨[.c (.sl fo .bD),.c (.sl dh .bD)],[tmf [.D .I],(true,(bg fo))],0,[],[],[(0,13,.I)],[]⟩
def Kz(N:Nat):Nat->List pK×List Field×vz (tmI×Int×Int)->Option (Int×Int×tmI×Int×Int)|0,_=>none|k+1,(e,f,g,a,h,i,c,d,j)=>cond (a<g) ((idx f a).bind λl=>(idx e l.2).bind λb=>aK (gB a c.length) ((c[a.toNat]?).bind λn=>aK (gB a (c.set a.toNat (qm .i64 (av ((av (d+b.2))-1)) (av (b.2-1)))).length) (((c.set a.toNat (qm .i64 (av ((av (d+b.2))-1)) (av (b.2-1))))[a.toNat]?).bind λm=>Kz N k (e,f,g,(av (a+1)),h,i,(c.set a.toNat (qm .i64 (av ((av (d+b.2))-1)) (av (b.2-1)))),(min 1048576 (av (m+b.1))),(max j b.2))))) (h,i,c,d,j)
def auT:=(Xb N).l N 4 (tm [(0,.c (.sl fo .bD)),(5,.P 0 5 0),(6,.R 0 13 1 .I),(7,.P 0 7 2),(15,.c (.sl dh .bD)),(16,.I),(17,.I)] [] [(0,5,.box 0 (bg fo)),(0,13,.row 1 .I),(0,7,.box 2 (bg fo))] 1 [] 3) [(.exit 0,tm [(5,.P 0 5 0),(6,.R 0 13 1 .I),(7,.P 0 7 2)] [] [(0,5,.box 0 (bg fo)),(0,13,.row 1 .I),(0,7,.box 2 (bg fo))] 1 [] 3)]
theorem an7:lpT (auT N) (Kz N):=lpI
def OL:List pK×List Field->Option (tmI×Int×Int)|(c,a)=>aK (decide (0<=(a.length:Int))) (aK (decide (0<=(a.length:Int))) (aK (decide ((Int.toNat (a.length:Int))<=(Int.toNat (a.length:Int)))&&room (Int.toNat (a.length:Int)) 8) ((Kz N N (c,a,(a.length:Int),0,0,0,(List.replicate (Int.toNat (a.length:Int)) (0:Int)),0,1)).bind λb=>some (b.2.2.1,(qm .i64 (av ((av (b.2.2.2.1+b.2.2.2.2))-1)) (av (b.2.2.2.2-1))),b.2.2.2.2))))
def ag9:=(auT N).p (OL N) (by delta OL;rw[an7 N N];kernel_rfl)
def Xc:=(ag9 N).on 218 ⟨[.c (.sl bK .bD)],[tmf [.D fo]],0,[(0,15,25,.bool)],[],[(0,9,fo)],[]⟩
def bN:Nat->List aB×Int×Int×List pK->Option (List pK)|0,_=>none|k+1,(d,e,a,b)=>cond (a<e) ((idx d a).bind λc=>cond (c.1==1) (aK (gB a b.length) ((b[a.toNat]?).bind λi=>bN k (d,e,(av (a+1)),(b.set a.toNat (1,1))))) ((cond (c.1==2) (some true) (some (c.1==4))).bind λg=>cond g (aK (gB a b.length) ((b[a.toNat]?).bind λj=>bN k (d,e,(av (a+1)),(b.set a.toNat (8,8))))) (cond (c.1==3) (aK (gB a b.length) ((b[a.toNat]?).bind λl=>bN k (d,e,(av (a+1)),(b.set a.toNat (16,8))))) (cond (c.1==7) (aK (gB a b.length) ((b[a.toNat]?).bind λm=>bN k (d,e,(av (a+1)),(b.set a.toNat (24,8))))) (cond (c.1==6) (aK (gB c.2.1 b.length) ((b[c.2.1.toNat]?).bind λf=>aK (gB a b.length) ((b[a.toNat]?).bind λn=>bN k (d,e,(av (a+1)),(b.set a.toNat ((min 1048576 (av (c.2.2.1*f.1))),f.2)))))) (cond (c.1==5) ((OL N (b,c.2.2.2)).bind λh=>aK (gB a b.length) ((b[a.toNat]?).bind λo=>bN k (d,e,(av (a+1)),(b.set a.toNat h.2)))) (bN k (d,e,(av (a+1)),b)))))))) b
def auU:=(Xc N).l N 4 (tm [(3,.R 0 9 0 fo),(10,.c (.sl bK .bD)),(11,.I),(12,.I)] [] [(0,9,.row 0 fo)] 1 [] 1) [(.exit 0,tm [(3,.R 0 9 0 fo)] [] [(0,9,.row 0 fo)] 1 [] 1)]
theorem an8:lpT (auU N) (bN N):=lpI
def SD:List aB->Option (List pK)|a=>aK (decide (0<=(a.length:Int))) (aK (decide (0<=(a.length:Int))) (aK (decide ((Int.toNat (a.length:Int))<=(Int.toNat (a.length:Int)))&&room (Int.toNat (a.length:Int)) 16) ((bN N N (a,(a.length:Int),0,(List.replicate (Int.toNat (a.length:Int)) (0,0)))).bind λb=>b)))
def am8:=(auU N).p (SD N) (by delta SD;rw[an8 N N];kernel_rfl)
def abP:List aB×Int->Option (List pK×Int)|(a,b)=>(OK N a).bind λc=>cond (c !=0) (some ([],c)) ((cond (b<0) (some true) (some (decide (b>=a.length)))).bind λe=>cond e (some ([],2)) ((SD N a).bind λd=>(idx d b).bind λf=>cond (f.1>256) (some ([],16)) (some (d,0))))
def anb:=((am8 N).on 234 ⟨[.c (.sl bK .bD),.I],[tmf [.D fo],tmf [.I]],0,[(0,5,20,.bool)],[],[],[]⟩).p (abP N)
def SE:List aB×Int->Option (Int×Int×Int)|(c,b)=>(abP N (c,b)).bind λa=>cond (a.2!=0) (some (0,0,a.2)) ((idx a.1 b).bind λd=>(idx a.1 b).bind λe=>some (d.1,e.2,0))
def ahb:=((anb N).on 163 (sg [.c (.sl bK .bD),.I] [tmf [.I],tmf [.I],tmf [.I]])).p (SE N)
def Xd:=(ahb N).on 357 (sg [.c (.sl dh .bD)] [tmf [.bool]])
def je(N:Nat):Nat->List Field×Int×Int×List UInt8×Int->Option (Int⊕Unit)|0,_=>none|k+1,(b,c,a,d,e)=>cond (a<c) ((idx b a).bind λf=>cond (f.1==d) (some (Sum.inl a)) (je N k (b,c,(av (a+1)),d,e))) (some (Sum.inr ()))
def Xe:=(Xd N).L N 1021001007000 3 383 3 (tm [(0,.c (.sl dh .bD)),(1,.fK 376 [.P 0 4 0]),(7,.I),(8,.I)] [[],[]] [(0,4,.box 0 (bg dh))] 3 [] 1) [(.ret,tm [(4,.I)] [[],[]] [] 3 [] 0),(.exit 0,tm [] [[],[]] [] 3 [] 0)]
theorem ao0:lpT (Xe N) (je N):=lpI
def kW:Nat->List Field×List Field×Int×Int->Option (Bool⊕Unit)|0,_=>none|k+1,(b,c,d,a)=>cond (a<d) ((idx c a).bind λe=>(OJ N e.1).bind λf=>cond (!f) (some (Sum.inl false)) (aK (decide (0<=a)) (aK (decide (a.toNat<=b.length)) ((je N N ((b.take a.toNat),((b.take a.toNat).length:Int),0,e.1,e.2)).bind λg=>match g with|.inl h=>cond (h>=0) (some (Sum.inl false)) (kW k (b,c,d,(av (a+1))))|.inr i=>kW k (b,c,d,(av (a+1))))))) (some (Sum.inr ()))
def auV:=(Xe N).l N 3 (tmn [(0,.c (.sl dh .bD)),(5,.c (.sl dh .bD)),(6,.I),(7,.I)]) [tmr [(2,.Q)],tmx]
theorem ao1:lpT (auV N) (kW N):=lpJ λk=>funext λ⟨a,b,c,d⟩=>by rw[kW,ao0 N N];kernel_rfl
def Xf:List Field->Option Bool|a=>(kW N N (a,a,(a.length:Int),0)).bind λb=>match b with|.inl c=>c|.inr d=>true
def ang:=(auV N).p (Xf N) (by delta Xf;rw[ao1 N N];kernel_rfl)
def zV(N:Nat):Unit->Option abM|()=>some (0,15,false,true)
def anj:=((ang N).on 352 (sg [] [(true,(bg sx))])).p (zV N)
def abQ(N:Nat):Unit->Option abM|()=>some ((-9223372036854775808),9223372036854775807,false,false)
def anm:=((anj N).on 353 (sg [] [(true,(bg sx))])).p (abQ N)
def Ei(N:Nat):Int->Option abM|a=>some (0,(av (a-1)),false,false)
def anp:=((anm N).on 354 (sg [.I] [(true,(bg sx))])).p (Ei N)
def uQ(N:Nat):Unit->Option abM|()=>some (0,15,true,false)
def ans:=((anp N).on 355 (sg [] [(true,(bg sx))])).p (uQ N)
def Jh:Int->Option (afU (afU (afU Int)))|a=>(cond (a==30) (some true) (some (a==31))).bind λK=>cond K (some (0,0,false,false,0,0,false,false,0,0,false,false,0)) (cond (a==1) ((zV N ()).bind λe=>(abQ N ()).bind λf=>some (e.1,e.2.1,e.2.2.1,e.2.2.2,f.1,f.2.1,f.2.2.1,f.2.2.2,0,0,false,false,2)) (cond (a==2) ((zV N ()).bind λg=>(Ei N 32).bind λh=>some (g.1,g.2.1,g.2.2.1,g.2.2.2,h.1,h.2.1,h.2.2.1,h.2.2.2,0,0,false,false,2)) (cond (a==3) ((zV N ()).bind λi=>(Ei N 2).bind λj=>some (i.1,i.2.1,i.2.2.1,i.2.2.2,j.1,j.2.1,j.2.2.1,j.2.2.2,0,0,false,false,2)) ((cond (a==4) (some true) (some (a==15))).bind λL=>cond L ((zV N ()).bind λl=>some (l.1,l.2.1,l.2.2.1,l.2.2.2,0,0,false,false,0,0,false,false,1)) ((cond (a==6) (some true) ((cond (a==7) (some true) ((cond (a==8) (some true) ((cond (a==9) (some true) ((cond (a==10) (some true) ((cond (a==11) (some true) (some (a==19))).bind λM=>some M)).bind λO=>some O)).bind λP=>some P)).bind λQ=>some Q)).bind λR=>some R)).bind λS=>cond S ((uQ N ()).bind λb=>(zV N ()).bind λc=>(uQ N ()).bind λd=>cond b.2.2.1 (some (c.1,c.2.1,c.2.2.1,c.2.2.2,d.1,d.2.1,d.2.2.1,d.2.2.2,b.1,b.2.1,b.2.2.1,b.2.2.2,3)) (some (c.1,c.2.1,c.2.2.1,c.2.2.2,d.1,d.2.1,d.2.2.1,d.2.2.2,b.1,b.2.1,b.2.2.1,b.2.2.2,2))) ((cond (a==5) (some true) ((cond (a==12) (some true) ((cond (a==16) (some true) ((cond (a==18) (some true) ((cond (a==21) (some true) (some (a==33))).bind λT=>some T)).bind λU=>some U)).bind λV=>some V)).bind λW=>some W)).bind λX=>cond X ((zV N ()).bind λm=>(uQ N ()).bind λn=>some (m.1,m.2.1,m.2.2.1,m.2.2.2,n.1,n.2.1,n.2.2.1,n.2.2.2,0,0,false,false,2)) (cond (a==13) ((zV N ()).bind λo=>(uQ N ()).bind λp=>(Ei N 8).bind λq=>some (o.1,o.2.1,o.2.2.1,o.2.2.2,p.1,p.2.1,p.2.2.1,p.2.2.2,q.1,q.2.1,q.2.2.1,q.2.2.2,3)) (cond (a==14) ((uQ N ()).bind λr=>(Ei N 8).bind λs=>(uQ N ()).bind λt=>some (r.1,r.2.1,r.2.2.1,r.2.2.2,s.1,s.2.1,s.2.2.1,s.2.2.2,t.1,t.2.1,t.2.2.1,t.2.2.2,3)) (cond (a==20) ((uQ N ()).bind λu=>(uQ N ()).bind λv=>(uQ N ()).bind λw=>some (u.1,u.2.1,u.2.2.1,u.2.2.2,v.1,v.2.1,v.2.2.1,v.2.2.2,w.1,w.2.1,w.2.2.1,w.2.2.2,3)) (cond (a==17) ((uQ N ()).bind λx=>(uQ N ()).bind λy=>some (x.1,x.2.1,x.2.2.1,x.2.2.2,y.1,y.2.1,y.2.2.1,y.2.2.2,0,0,false,false,2)) (cond (a==22) ((Ei N 200).bind λz=>some (z.1,z.2.1,z.2.2.1,z.2.2.2,0,0,false,false,0,0,false,false,1)) (cond (a==23) ((uQ N ()).bind λA=>(Ei N 200).bind λB=>some (A.1,A.2.1,A.2.2.1,A.2.2.2,B.1,B.2.1,B.2.2.1,B.2.2.2,0,0,false,false,2)) ((cond (a==24) (some true) ((cond (a==28) (some true) (some (a==32))).bind λY=>some Y)).bind λZ=>cond Z ((uQ N ()).bind λC=>some (C.1,C.2.1,C.2.2.1,C.2.2.2,0,0,false,false,0,0,false,false,1)) (cond (a==25) ((zV N ()).bind λI=>(Ei N 32).bind λD=>some ((-1),I.2.1,I.2.2.1,I.2.2.2,D.1,D.2.1,D.2.2.1,D.2.2.2,0,0,false,false,2)) ((cond (a==26) (some true) (some (a==27))).bind λa0=>cond a0 ((Ei N 32).bind λE=>some (E.1,E.2.1,E.2.2.1,E.2.2.2,0,0,false,false,0,0,false,false,1)) (cond (a==29) ((zV N ()).bind λG=>(zV N ()).bind λH=>some (G.1,G.2.1,G.2.2.1,G.2.2.2,H.1,H.2.1,H.2.2.1,H.2.2.2,0,0,false,false,2)) (cond (a==34) ((uQ N ()).bind λJ=>some ((-1),J.2.1,J.2.2.1,J.2.2.2,0,0,false,false,0,0,false,false,1)) (some (0,0,false,false,0,0,false,false,0,0,false,false,(-1))))))))))))))))))))
def anv:=((ans N).on 292 ⟨[.B],[(true,[.I,.I,.bool,.bool,.I,.I,.bool,.bool,.I,.I,.bool,.bool]),tmf [.I]],0,[(0,24,7,.bool),(0,34,16,.bool),(0,48,19,.bool),(0,46,19,.bool),(0,44,19,.bool),(0,42,19,.bool),(0,40,19,.bool),(0,38,19,.bool),(0,60,27,.bool),(0,58,27,.bool),(0,56,27,.bool),(0,54,27,.bool),(0,52,27,.bool),(0,78,46,.bool),(0,76,46,.bool),(0,84,52,.bool)],[],[(0,62,sx),(0,67,sx),(0,72,sx),(0,76,sx),(0,91,sx),(0,97,sx),(0,103,sx),(0,108,sx),(0,112,sx),(0,117,sx),(0,121,sx),(0,126,sx),(0,132,sx),(0,137,sx),(0,141,sx)],[]⟩).p (Jh N)
def LZ(N:Nat):iO->Option (Int×Int×Int)|(d,a,b,c)=>(a,b,c)
def anz:=((anv N).on 293 (sg [.agg (bg bf)] [(true,[.I,.I,.I])])).p (LZ N)
def L3:iO->Option Int|(c,d,e,f)=>(Jh N c).bind λa=>cond (a.2.2.2.2.2.2.2.2.2.2.2.2<0) (some 8) ((LZ N (c,d,e,f)).bind λb=>(cond (b.1<a.1) (some true) (some (decide (b.1>a.2.1)))).bind λg=>cond g (some 8) ((cond (b.2.1<a.2.2.2.2.1) (some true) (some (decide (b.2.1>a.2.2.2.2.2.1)))).bind λh=>cond h (some 8) ((cond (b.2.2<a.2.2.2.2.2.2.2.2.1) (some true) (some (decide (b.2.2>a.2.2.2.2.2.2.2.2.2.1)))).bind λi=>cond i (some 8) (some 0))))
def anC:=((anz N).on 291 ⟨[.agg (bg bf)],[tmf [.I]],0,[(0,12,34,.bool),(0,100012,34,.bool)],[(0,7),(0,100007)],[],[]⟩).p (L3 N)
def SF(N:Nat):Int->Option Int|a=>(cond (a<1) (some true) (some (decide (a>200)))).bind λb=>cond b (some 2) (some 0)
def ahd:=((anC N).on 294 ⟨[.I],[tmf [.I]],0,[(0,1,8,.bool)],[],[],[]⟩).p (SF N)
def Xg:=(ahd N).on 301 ⟨[.c (.sl iN .bD),.I],[tmf [.bool]],0,[(0,1,28,.bool)],[],[],[]⟩
def K5(N:Nat):Nat->List fA×Int×Int×Int×Int->Option (Bool⊕Unit)|0,_=>none|k+1,(c,d,b,e,f)=>cond (b<d) ((idx c b).bind λa=>cond (a.1<=e) (some (Sum.inl false)) (cond (a.1==a.1&&(a.2==f&&true)) (some (Sum.inl false)) (K5 N k (c,d,(av (b+1)),a.1,a.2)))) (some (Sum.inr ()))
def auW:=(Xg N).l N 7 (tm [(5,.P 0 5 0),(33,.c (.sl iN .bD)),(34,.I),(35,.I)] [] [(0,5,.box 0 (bg iN))] 1 [] 1) [tmr [(4,.Q)],tmx]
theorem ao3:lpT (auW N) (K5 N):=lpI
def Xh:List fA×Int->Option Bool|(a,c)=>(cond ((a.length:Int)==0) (some true) ((idx a 0).bind λd=>cond (d.1!=0) (some true) ((idx a (av ((a.length:Int)-1))).bind λe=>some (decide (e.1>=c))))).bind λf=>cond f false ((idx a 0).bind λb=>aK (decide (1<=a.length)) ((K5 N N ((a.drop 1),((a.drop 1).length:Int),0,b.1,b.2)).bind λg=>match g with|.inl h=>h|.inr i=>true))
def anG:=(auW N).p (Xh N) (by delta Xh;rw[ao3 N N];kernel_rfl)
def L4:List fA×Int->Option Int|(c,a)=>(SF N a).bind λb=>cond (b !=0) b ((Xh N (c,a)).bind λd=>cond (!d) (some 8) (some 0))
def ahf:=((anG N).on 212 (sg [.c (.sl iN .bD),.I] [tmf [.I]])).p (L4 N)
def Xi:=(ahf N).on 295 ⟨[.c (.sl bK .bD),.agg (cP dQ)],[tmf [.bool]],0,[(0,1,49,.bool),(0,11,66,.bool),(0,26,4,.bool)],[],[],[]⟩
def wW(N:Nat):Nat->List aB×List Field×Int×Int×ic->Option (Bool⊕ic)|0,_=>none|k+1,(b,c,d,a,e,f,g,h,i,j,l)=>cond (a<d) ((idx c a).bind λm=>(cond (m.2<0) (some true) (some (decide (m.2>=b.length)))).bind λn=>cond n (some (Sum.inl false)) (wW N k (b,c,d,(av (a+1)),e,f,g,h,i,j,l))) (some (Sum.inr (e,f,g,h,i,j,l)))
def Xj:=(Xi N).l N 6 (tm [(0,.c (.sl bK .bD)),(3,.P 0 3 0),(51,.c (.sl dh .bD)),(52,.I),(53,.I)] [] [(0,3,.box 0 (cP dQ))] 1 [] 1) [tmr [(4,.Q)],(.exit 0,tm [(3,.P 0 3 0)] [] [(0,3,.box 0 (cP dQ))] 1 [] 1)]
theorem ao4:lpT (Xj N) (wW N):=lpI
def wX:Nat->List Instr×Int×Int×ic->Option (Bool⊕ic)|0,_=>none|k+1,(c,d,b,e,f,g,h,i,j,l)=>cond (b<d) ((idx c b).bind λa=>(L3 N (a.1,a.2.1,a.2.2.1,a.2.2.2)).bind λm=>cond (m !=0) (some (Sum.inl false)) (wX k (c,d,(av (b+1)),e,f,g,h,i,j,l))) (some (Sum.inr (e,f,g,h,i,j,l)))
def auX:=(Xj N).l N 17 (tm [(3,.P 0 3 0),(69,.c (.sl bf .bD)),(70,.I),(71,.I)] [] [(0,3,.box 0 (cP dQ))] 1 [] 1) [tmr [(4,.Q)],(.exit 2,tm [(3,.P 0 3 0)] [] [(0,3,.box 0 (cP dQ))] 1 [] 1)]
theorem ao6:lpT (auX N) (wX N):=lpI
def Xk:List aB×ic->Option Bool|(f,g,d,e,b,h,i,j)=>((OJ N g).bind λl=>cond (!l) (some true) (cond ((b.length:Int)>16) (some true) ((Xf N b).bind λm=>cond (!m) (some true) (cond (d<0) (some true) (cond (d>b.length) (some true) (cond (e<(-1)) (some true) (some (decide (e>=f.length))))))))).bind λn=>cond n false ((wW N N (f,b,(b.length:Int),0,g,d,e,b,h,i,j)).bind λo=>match o with|.inl p=>p|.inr a=>(wX N N (a.2.2.2.2.1,(a.2.2.2.2.1.length:Int),0,a.1,a.2.1,a.2.2.1,a.2.2.2.1,a.2.2.2.2.1,a.2.2.2.2.2.1,a.2.2.2.2.2.2)).bind λq=>match q with|.inl r=>r|.inr c=>((L4 N (c.2.2.2.2.2.1,(c.2.2.2.2.1.length:Int))).bind λs=>cond (s==0) ((L4 N (c.2.2.2.2.2.2,(c.2.2.2.2.1.length:Int))).bind λt=>some (t==0)) (some false)).bind λu=>u)
def ahh:=(auX N).p (Xk N) (by delta Xk;rw[ao4 N N,ao6 N N];kernel_rfl)
def Xl:=(ahh N).on 207 ⟨[.agg (cP aW)],[tmf [.bool]],0,[(0,1,33,.bool)],[],[],[]⟩
def K6:Nat->Int×Int×cZ->Option (Bool⊕cZ)|0,_=>none|k+1,(c,a,b,d,e)=>cond (a<c) ((SE N (b,a)).bind λf=>cond (f.2.2!=0) (some (Sum.inl false)) (K6 k (c,(av (a+1)),b,d,e))) (some (Sum.inr (b,d,e)))
def Xm:=(Xl N).l N 6 (tm [(1,.P 0 1 0),(36,.I),(37,.I)] [] [(0,1,.box 0 (cP aW))] 1 [] 1) [tmr [(2,.Q)],(.exit 0,tm [(1,.P 0 1 0)] [] [(0,1,.box 0 (cP aW))] 1 [] 1)]
theorem ao7:lpT (Xm N) (K6 N):=lpI
def K7(N:Nat):Nat->List (List UInt8)×Int×Int×cZ->Option (Bool⊕cZ)|0,_=>none|k+1,(b,c,a,d,e,f)=>cond (a<c) ((idx b a).bind λg=>cond ((g.length:Int)>64) (some (Sum.inl false)) (K7 N k (b,c,(av (a+1)),d,e,f))) (some (Sum.inr (d,e,f)))
def Xp:=(Xm N).l N 18 (tm [(1,.P 0 1 0),(52,.c (.sl .str .bD)),(53,.I),(54,.I)] [] [(0,1,.box 0 (cP aW))] 1 [] 1) [tmr [(2,.Q)],(.exit 2,tm [(1,.P 0 1 0)] [] [(0,1,.box 0 (cP aW))] 1 [] 1)]
theorem ao9:lpT (Xp N) (K7 N):=lpI
def K8:Nat->List Func×Int×Int×bT (List (List UInt8))->Option (Bool⊕Unit)|0,_=>none|k+1,(c,d,b,e,g,h,f)=>cond (b<d) ((idx c b).bind λa=>cond (hasB f a.1) (some (Sum.inl false)) ((Xk N (e,a.1,a.2.1,a.2.2.1,a.2.2.2.1,a.2.2.2.2.1,a.2.2.2.2.2.1,a.2.2.2.2.2.2)).bind λi=>cond (!i) (some (Sum.inl false)) (K8 k (c,d,(av (b+1)),e,g,h,(tI f a.1))))) (some (Sum.inr ()))
def auY:=(Xp N).l N 30 (tm [(1,.P 0 1 0),(9,.c (.mp 0 62 1)),(64,.c (.sl dQ .bD)),(65,.I),(66,.I)] [] [(0,1,.box 0 (cP aW)),(0,62,.set 1)] 1 [] 2) [tmr [(2,.Q)],(.exit 4,tmz)]
theorem ap3:lpT (auY N) (K8 N):=lpI
def Xq:cZ->Option Bool|(c,e,d)=>((OK N c).bind λf=>cond (f !=0) (some true) (cond ((e.length:Int)>32) (some true) (cond ((d.length:Int)==0) (some true) (some (decide ((d.length:Int)>32)))))).bind λg=>cond g false ((K6 N N ((c.length:Int),0,c,e,d)).bind λh=>match h with|.inl i=>i|.inr a=>(K7 N N (a.2.1,(a.2.1.length:Int),0,a.1,a.2.1,a.2.2)).bind λj=>match j with|.inl l=>l|.inr b=>(K8 N N (b.2.2,(b.2.2.length:Int),0,b.1,b.2.1,b.2.2,([]:List (List UInt8)))).bind λm=>match m with|.inl n=>n|.inr o=>true)
def ahj:=(auY N).p (Xq N) (by delta Xq;rw[ao7 N N,ao9 N N,ap3 N N];kernel_rfl)
def Xr:=(ahj N).on 297 ⟨[.U],[tmf [.D .B]],1,[],[(0,4)],[(0,2,.B),(1014000,5,.B),(1018000,5,.B)],[]⟩
def K9(N:Nat):Nat->Int×tmI->Option (Int×tmI)|0,_=>none|k+1,(a,b)=>cond (a>=128) (aK (room (b.length+1) 1) (K9 N k ((Int.fdiv a 128),(b++[(DW .u8 (wu8 a) 128)])))) (a,b)
def auZ:=(Xr N).L N 0 100004 297 4 (tm [(0,.U),(3,.P 0 3 0),(4,.fK 358 [.P 0 3 0])] [] [(0,3,.box 0 [.ref 0 1022918 1 .B]),(0,1022918,.row 1 .B)] 1 [] 2) [(.exit 0,tm [(0,.U),(3,.P 0 3 0),(4,.fK 358 [.P 0 3 0])] [] [(0,3,.box 0 [.ref 0 1022918 1 .B]),(0,1022918,.row 1 .B)] 1 [] 2)]
theorem ap5:lpT (auZ N) (K9 N):=lpI
def iD:Int->Option tmI|a=>cond (a>=128) (aK (room 1 1) ((K9 N N ((Int.fdiv a 128),[(DW .u8 (wu8 a) 128)])).bind λb=>aK (room (b.2.length+1) 1) (some (b.2++[(wu8 b.1)])))) (aK (room 1 1) (some [(wu8 a)]))
def anM:=(auZ N).p (iD N) (by delta iD;rw[ap5 N N];kernel_rfl)
def sF:Int->Option tmI|a=>(iD N (abD .u64 (aS ((aS a)*2)) (aS (Int.fdiv a 9223372036854775808)))).bind λb=>b
def anP:=((anM N).on 298 (sg [.I] [tmf [.D .B]])).p (sF N)
def Xs:iO->Option (tmI×Int)|(a,m,n,o)=>(L3 N (a,m,n,o)).bind λp=>cond (p !=0) (some ([],p)) ((Jh N a).bind λb=>(LZ N (a,m,n,o)).bind λc=>cond (0>=b.2.2.2.2.2.2.2.2.2.2.2.2) (cond (1>=b.2.2.2.2.2.2.2.2.2.2.2.2) (cond (2>=b.2.2.2.2.2.2.2.2.2.2.2.2) (some ([a],0)) (cond (b.2.2.2.2.2.2.2.2.1<0) ((sF N c.2.2).bind λq=>aK (room (1+q.length) 1) (some (([a]++q),0))) ((iD N (aS c.2.2)).bind λr=>aK (room (1+r.length) 1) (some (([a]++r),0))))) (cond (b.2.2.2.2.1<0) ((sF N c.2.1).bind λf=>aK (room (1+f.length) 1) (cond (2>=b.2.2.2.2.2.2.2.2.2.2.2.2) (some (([a]++f),0)) (cond (b.2.2.2.2.2.2.2.2.1<0) ((sF N c.2.2).bind λs=>aK (room (([a]++f).length+s.length) 1) (some ((([a]++f)++s),0))) ((iD N (aS c.2.2)).bind λt=>aK (room (([a]++f).length+t.length) 1) (some ((([a]++f)++t),0)))))) ((iD N (aS c.2.1)).bind λg=>aK (room (1+g.length) 1) (cond (2>=b.2.2.2.2.2.2.2.2.2.2.2.2) (some (([a]++g),0)) (cond (b.2.2.2.2.2.2.2.2.1<0) ((sF N c.2.2).bind λu=>aK (room (([a]++g).length+u.length) 1) (some ((([a]++g)++u),0))) ((iD N (aS c.2.2)).bind λv=>aK (room (([a]++g).length+v.length) 1) (some ((([a]++g)++v),0)))))))) (cond (b.1<0) ((sF N c.1).bind λd=>aK (room (1+d.length) 1) (cond (1>=b.2.2.2.2.2.2.2.2.2.2.2.2) (cond (2>=b.2.2.2.2.2.2.2.2.2.2.2.2) (some (([a]++d),0)) (cond (b.2.2.2.2.2.2.2.2.1<0) ((sF N c.2.2).bind λw=>aK (room (([a]++d).length+w.length) 1) (some ((([a]++d)++w),0))) ((iD N (aS c.2.2)).bind λx=>aK (room (([a]++d).length+x.length) 1) (some ((([a]++d)++x),0))))) (cond (b.2.2.2.2.1<0) ((sF N c.2.1).bind λh=>aK (room (([a]++d).length+h.length) 1) (cond (2>=b.2.2.2.2.2.2.2.2.2.2.2.2) (some ((([a]++d)++h),0)) (cond (b.2.2.2.2.2.2.2.2.1<0) ((sF N c.2.2).bind λy=>aK (room ((([a]++d)++h).length+y.length) 1) (some (((([a]++d)++h)++y),0))) ((iD N (aS c.2.2)).bind λz=>aK (room ((([a]++d)++h).length+z.length) 1) (some (((([a]++d)++h)++z),0)))))) ((iD N (aS c.2.1)).bind λi=>aK (room (([a]++d).length+i.length) 1) (cond (2>=b.2.2.2.2.2.2.2.2.2.2.2.2) (some ((([a]++d)++i),0)) (cond (b.2.2.2.2.2.2.2.2.1<0) ((sF N c.2.2).bind λA=>aK (room ((([a]++d)++i).length+A.length) 1) (some (((([a]++d)++i)++A),0))) ((iD N (aS c.2.2)).bind λB=>aK (room ((([a]++d)++i).length+B.length) 1) (some (((([a]++d)++i)++B),0))))))))) ((iD N (aS c.1)).bind λe=>aK (room (1+e.length) 1) (cond (1>=b.2.2.2.2.2.2.2.2.2.2.2.2) (cond (2>=b.2.2.2.2.2.2.2.2.2.2.2.2) (some (([a]++e),0)) (cond (b.2.2.2.2.2.2.2.2.1<0) ((sF N c.2.2).bind λC=>aK (room (([a]++e).length+C.length) 1) (some ((([a]++e)++C),0))) ((iD N (aS c.2.2)).bind λD=>aK (room (([a]++e).length+D.length) 1) (some ((([a]++e)++D),0))))) (cond (b.2.2.2.2.1<0) ((sF N c.2.1).bind λj=>aK (room (([a]++e).length+j.length) 1) (cond (2>=b.2.2.2.2.2.2.2.2.2.2.2.2) (some ((([a]++e)++j),0)) (cond (b.2.2.2.2.2.2.2.2.1<0) ((sF N c.2.2).bind λE=>aK (room ((([a]++e)++j).length+E.length) 1) (some (((([a]++e)++j)++E),0))) ((iD N (aS c.2.2)).bind λG=>aK (room ((([a]++e)++j).length+G.length) 1) (some (((([a]++e)++j)++G),0)))))) ((iD N (aS c.2.1)).bind λl=>aK (room (([a]++e).length+l.length) 1) (cond (2>=b.2.2.2.2.2.2.2.2.2.2.2.2) (some ((([a]++e)++l),0)) (cond (b.2.2.2.2.2.2.2.2.1<0) ((sF N c.2.2).bind λH=>aK (room ((([a]++e)++l).length+H.length) 1) (some (((([a]++e)++l)++H),0))) ((iD N (aS c.2.2)).bind λI=>aK (room ((([a]++e)++l).length+I.length) 1) (some (((([a]++e)++l)++I),0)))))))))))
def ahl:=((anP N).on 299 ⟨[.agg (bg bf)],[tmf [.D .B],tmf [.I]],0,[(0,100017,39,.bool),(0,17,39,.bool)],[(0,9),(0,100009)],[(0,23,.B)],[]⟩).p (Xs N)
def Xt:=(ahl N).on 300 (sg [.c (.sl iN .bD),.I] [tmf [.D .B],tmf [.I]])
def Ly:Nat->Int×List fA×Int×Int×tmI->Option tmI|0,_=>none|k+1,(h,e,f,b,a)=>cond (b<f) ((idx e b).bind λc=>(iD N (aS (av (c.1-h)))).bind λd=>aK (room (a.length+d.length) 1) ((iD N c.2).bind λg=>aK (room ((a++d).length+g.length) 1) (Ly k (c.1,e,f,(av (b+1)),((a++d)++g))))) a
def au0:=(Xt N).l N 9 (tm [(7,.R 0 20 0 .B),(8,.I),(21,.c (.sl iN .bD)),(22,.I),(23,.I)] [] [(0,20,.row 0 .B)] 1 [] 1) [(.exit 0,tm [(7,.R 0 20 0 .B)] [] [(0,20,.row 0 .B)] 1 [] 1)]
theorem ar0:lpT (au0 N) (Ly N):=lpI
def Xu:List fA×Int->Option (tmI×Int)|(a,c)=>(L4 N (a,c)).bind λb=>cond (b !=0) (some ([],b)) ((iD N (aS (a.length:Int))).bind λd=>(Ly N N (0,a,(a.length:Int),0,d)).bind λe=>some (e,0))
def ahn:=(au0 N).p (Xu N) (by delta Xu;rw[ar0 N N];kernel_rfl)
def Xv:=(ahn N).on 137 ⟨[.agg (cP aW)],[tmf [.D .B],tmf [.I]],0,[(1015000,12,29,.bool)],[],[(1015000,23,.B),(1042000,70,(.sl iN))],[]⟩
def wY:Nat->List Field×Int×Int×tmI×cZ->Option (tmI×cZ)|0,_=>none|k+1,(e,f,d,a,g,h,i)=>cond (d<f) ((idx e d).bind λb=>(iD N (aS (b.1.length:Int))).bind λc=>aK (room (a.length+c.length) 1) (aK (room ((a++c).length+(bP b.1).length) 1) ((iD N (aS b.2)).bind λj=>aK (room (((a++c)++(bP b.1)).length+j.length) 1) (wY k (e,f,(av (d+1)),(((a++c)++(bP b.1))++j),g,h,i))))) (a,g,h,i)
def Xw:=(Xv N).L N 1015001051000 3 296 3 (tm [(0,.P 0 4 0),(10,.D dh),(11,.I),(12,.I)] [[(0,.P 0 4 0)],[(1,.P 0 1 1),(4,.P 0 4 0)]] [(0,4,.box 0 [.A .B 2]),(0,1,.box 1 (cP aW))] 3 [2] 3) [(.exit 0,tm [] [[(0,.P 0 4 0)],[(1,.P 0 1 1),(4,.P 0 4 0)]] [(0,4,.box 0 [.A .B 2]),(0,1,.box 1 (cP aW))] 3 [2] 3)]
theorem ar1:lpT (Xw N) (wY N):=lpI
def eL:Nat->List aB×Int×Int×tmI×cZ->Option (bT tmI)|0,_=>none|k+1,(d,e,c,b,f,g,h)=>cond (c<e) ((idx d c).bind λa=>aK (room (b.length+1) 1) ((cond (a.1==4) (some true) (some (a.1==7))).bind λo=>cond o ((iD N (aS a.2.1)).bind λl=>aK (room ((b++[a.1]).length+l.length) 1) (eL k (d,e,(av (c+1)),((b++[a.1])++l),f,g,h))) (cond (a.1==6) ((iD N (aS a.2.1)).bind λj=>aK (room ((b++[a.1]).length+j.length) 1) ((iD N (aS a.2.2.1)).bind λm=>aK (room (((b++[a.1])++j).length+m.length) 1) (eL k (d,e,(av (c+1)),(((b++[a.1])++j)++m),f,g,h)))) (cond (a.1==5) ((iD N (aS (a.2.2.2.length:Int))).bind λn=>aK (room ((b++[a.1]).length+n.length) 1) ((wY N N (a.2.2.2,(a.2.2.2.length:Int),0,((b++[a.1])++n),f,g,h)).bind λi=>eL k (d,e,(av (c+1)),i.1,i.2.1,i.2.2.1,i.2.2.2))) (eL k (d,e,(av (c+1)),(b++[a.1]),f,g,h)))))) (f,g,h,b)
def Xx:=(Xw N).L N 1015000 3 208 3 (tm [(0,.P 0 4 0),(10,.c (.sl bK .bD)),(11,.I),(12,.I)] [[(1,.P 0 1 1),(4,.P 0 4 0)]] [(0,4,.box 0 [.A .B 2]),(0,1,.box 1 (cP aW))] 2 [2] 3) [(.exit 0,tm [] [[(1,.P 0 1 0),(4,.P 0 4 1)]] [(0,1,.box 0 (cP aW)),(0,4,.box 1 [.A .B 2])] 2 [2] 3)]
theorem ar2:lpT (Xx N) (eL N):=lpJ λk=>funext λ⟨a,b,c,d,e,f,g⟩=>by rw[eL,ar1 N N];kernel_rfl
def wZ:Nat->List (List UInt8)×Int×Int×bT tmI->Option (bT tmI)|0,_=>none|k+1,(e,f,b,g,h,i,a)=>cond (b<f) ((idx e b).bind λc=>(iD N (aS (c.length:Int))).bind λd=>aK (room (a.length+d.length) 1) (aK (room ((a++d).length+(bP c).length) 1) (wZ k (e,f,(av (b+1)),g,h,i,((a++d)++(bP c)))))) (g,h,i,a)
def Xy:=(Xx N).l N 9 (tm [(1,.P 0 1 0),(4,.P 0 4 1),(21,.c (.sl .str .bD)),(22,.I),(23,.I)] [] [(0,1,.box 0 (cP aW)),(0,4,.box 1 [.A .B 2])] 1 [2] 3) [(.exit 0,tm [(1,.P 0 1 0),(4,.P 0 4 1)] [] [(0,1,.box 0 (cP aW)),(0,4,.box 1 [.A .B 2])] 1 [2] 3)]
theorem ar3:lpT (Xy N) (wZ N):=lpI
def w8:Nat->List Field×Int×Int×tmI×ic->Option (tmI×ic)|0,_=>none|k+1,(e,f,d,a,g,h,i,j,l,m,n)=>cond (d<f) ((idx e d).bind λb=>(iD N (aS (b.1.length:Int))).bind λc=>aK (room (a.length+c.length) 1) (aK (room ((a++c).length+(bP b.1).length) 1) ((iD N (aS b.2)).bind λo=>aK (room (((a++c)++(bP b.1)).length+o.length) 1) (w8 k (e,f,(av (d+1)),(((a++c)++(bP b.1))++o),g,h,i,j,l,m,n))))) (a,g,h,i,j,l,m,n)
def Xz:=(Xy N).L N 1042001035000 3 296 3 (tm [(0,.P 0 4 0),(10,.D dh),(11,.I),(12,.I)] [[(0,.P 0 4 0),(3,.P 1 3 1)],[(4,.P 0 4 0)]] [(0,4,.box 0 [.A .B 2]),(1,3,.box 1 (bg dQ))] 3 [2] 3) [(.exit 0,tm [] [[(0,.P 0 4 0),(3,.P 1 3 1)],[(4,.P 0 4 0)]] [(0,4,.box 0 [.A .B 2]),(1,3,.box 1 (bg dQ))] 3 [2] 3)]
theorem ar4:lpT (Xz N) (w8 N):=lpI
def w9:Nat->List Instr×Int×Int×tmI×ic->Option ((Int×tmI)⊕(tmI×ic))|0,_=>none|k+1,(e,f,d,a,g,h,i,j,l,m,n)=>cond (d<f) ((idx e d).bind λb=>(Xs N (b.1,b.2.1,b.2.2.1,b.2.2.2)).bind λc=>cond (c.2!=0) (some (Sum.inl (c.2,a))) (aK (room (a.length+c.1.length) 1) (w9 k (e,f,(av (d+1)),(a++c.1),g,h,i,j,l,m,n)))) (some (Sum.inr (a,g,h,i,j,l,m,n)))
def XA:=(Xz N).L N 1042000 8 211 8 (tm [(0,.P 0 4 0),(3,.P 1 3 1),(42,.D bf),(43,.I),(44,.I)] [[(4,.P 0 4 0)]] [(0,4,.box 0 [.A .B 2]),(1,3,.box 1 (bg dQ))] 2 [2] 3) [(.ret,tm [(4,.I)] [[(4,.P 0 4 0)]] [(0,4,.box 0 [.A .B 1])] 2 [1] 2),(.exit 0,tm [(0,.P 0 4 0),(3,.P 1 3 1)] [[(4,.P 0 4 0)]] [(0,4,.box 0 [.A .B 2]),(1,3,.box 1 (bg dQ))] 2 [2] 3)]
theorem ar5:lpT (XA N) (w9 N):=lpI
def jf:Nat->List (List fA)×Int×Int×tmI×ic->Option ((Int×tmI)⊕tmI)|0,_=>none|k+1,(d,e,c,a,g,h,i,j,f,l,m)=>cond (c<e) ((idx d c).bind λn=>(Xu N (n,(f.length:Int))).bind λb=>cond (b.2!=0) (some (Sum.inl (b.2,a))) (aK (room (a.length+b.1.length) 1) (jf k (d,e,(av (c+1)),(a++b.1),g,h,i,j,f,l,m)))) (some (Sum.inr a))
def XB:=(XA N).L N 1042000 21 211 21 (tm [(0,.P 0 4 0),(3,.P 1 3 1),(70,.c (.sl (.sl iN) .full)),(71,.I),(72,.I)] [[(4,.P 0 4 0)]] [(0,4,.box 0 [.A .B 2]),(1,3,.box 1 (bg dQ))] 2 [2] 3) [(.ret,tm [(4,.I)] [[(4,.P 0 4 0)]] [(0,4,.box 0 [.A .B 1])] 2 [1] 2),(.exit 2,tm [] [[(4,.P 0 4 0)]] [(0,4,.box 0 [.A .B 1])] 2 [1] 2)]
theorem ar6:lpT (XB N) (jf N):=lpI
def iU:Nat->List Func×Int×Int×tmI->Option (Int⊕tmI)|0,_=>none|k+1,(g,h,f,d)=>cond (f<h) ((idx g f).bind λa=>(iD N (aS (a.1.length:Int))).bind λe=>aK (room (d.length+e.length) 1) (aK (room ((d++e).length+(bP a.1).length) 1) ((iD N (aS a.2.1)).bind λi=>aK (room (((d++e)++(bP a.1)).length+i.length) 1) ((sF N a.2.2.1).bind λj=>aK (room ((((d++e)++(bP a.1))++i).length+j.length) 1) ((iD N (aS (a.2.2.2.1.length:Int))).bind λn=>aK (room (((((d++e)++(bP a.1))++i)++j).length+n.length) 1) ((w8 N N (a.2.2.2.1,(a.2.2.2.1.length:Int),0,(((((d++e)++(bP a.1))++i)++j)++n),a.1,a.2.1,a.2.2.1,a.2.2.2.1,a.2.2.2.2.1,a.2.2.2.2.2.1,a.2.2.2.2.2.2)).bind λb=>(iD N (aS (b.2.2.2.2.2.1.length:Int))).bind λo=>aK (room (b.1.length+o.length) 1) ((w9 N N (b.2.2.2.2.2.1,(b.2.2.2.2.2.1.length:Int),0,(b.1++o),b.2.1,b.2.2.1,b.2.2.2.1,b.2.2.2.2.1,b.2.2.2.2.2.1,b.2.2.2.2.2.2.1,b.2.2.2.2.2.2.2)).bind λp=>match p with|.inl l=>cond (l.1!=0) (some (Sum.inl l.1)) (iU k (g,h,(av (f+1)),l.2))|.inr c=>(jf N N ([c.2.2.2.2.2.2.1,c.2.2.2.2.2.2.2],2,0,c.1,c.2.1,c.2.2.1,c.2.2.2.1,c.2.2.2.2.1,c.2.2.2.2.2.1,c.2.2.2.2.2.2.1,c.2.2.2.2.2.2.2)).bind λq=>match q with|.inl m=>cond (m.1!=0) (some (Sum.inl m.1)) (iU k (g,h,(av (f+1)),m.2))|.inr r=>iU k (g,h,(av (f+1)),r)))))))) (some (Sum.inr d))
def au1:=(XB N).l N 19 (tm [(4,.P 0 4 0),(35,.c (.sl dQ .bD)),(36,.I),(37,.I)] [] [(0,4,.box 0 [.A .B 1])] 1 [1] 2) [tmr [(2,.N),(3,.I)],(.exit 2,tm [(4,.P 0 4 0)] [] [(0,4,.box 0 [.A .B 1])] 1 [1] 2)]
theorem ar7:lpT (au1 N) (iU N):=lpJ λk=>funext λ⟨a,b,c,d⟩=>by rw[iU,ar4 N N,ar5 N N,ar6 N N];kernel_rfl
def XC:cZ->Option (tmI×Int)|(b,d,e)=>(Xq N (b,d,e)).bind λj=>cond (!j) (some ([],8)) ((iD N (aS (b.length:Int))).bind λf=>aK (room f.length 1) ((eL N N (b,(b.length:Int),0,f,b,d,e)).bind λa=>(iD N (aS (a.2.1.length:Int))).bind λg=>aK (room (a.2.2.2.length+g.length) 1) ((wZ N N (a.2.1,(a.2.1.length:Int),0,a.1,a.2.1,a.2.2.1,(a.2.2.2++g))).bind λc=>(iD N (aS (c.2.2.1.length:Int))).bind λh=>aK (room (c.2.2.2.length+h.length) 1) ((iU N N (c.2.2.1,(c.2.2.1.length:Int),0,(c.2.2.2++h))).bind λl=>match l with|.inl m=>some ([],m)|.inr i=>cond ((i.length:Int)>20000) (some ([],4)) (some (i,0))))))
def anU:=(au1 N).p (XC N) (by delta XC;rw[ar2 N N,ar3 N N,ar7 N N];kernel_rfl)
def F97:cZ->Option Int|(a,b,c)=>(XC N (a,b,c)).bind λd=>d.2
def G97:=((anU N).on 97 (sg [.agg (cP aW)] [tmf [.I]])).p (F97 N)
end
end Go.Proofs.YtgdkmdochlhhlaaGreat
