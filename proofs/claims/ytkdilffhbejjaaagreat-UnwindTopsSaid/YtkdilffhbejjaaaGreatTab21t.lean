/- A part of the proof: SymN, SymO, Lay21t, SymClip, SymP, Tab21t. -/
import Derived.Test.YtkdilffhbejjaaaGreatSymM
import Derived.Laws.Rows
import Derived.ChangeSame
import Derived.JoinedOf
import Derived.JoinedAt
import Derived.JoinedStill
import Derived.RowKit
import Derived.ProofKit
import GoSem.Claim
import GoSem.ClaimJoined
import GoSem.ClaimMapViews
import Derived.JoinedTies
import Derived.KernelRfl
import Derived.Shelf.Lays
import Derived.Shelf.LaysM
import Derived.Shelf.LaysC
import Derived.Shelf.Sort.Plain
import Derived.Shelf.Slices.CompactI
import Derived.Ground.NamesProg
import Derived.Ground.Names2Prog
import Derived.Test.YtkdilffhbejjaaaGreatRows
import Derived.Test.YtkdilffhbejjaaaGreatChecked
import Derived.Test.YtkdilffhbejjaaaGreatSymK
import Derived.Test.YtkdilffhbejjaaaGreatEngTb
import Derived.Test.YtkdilffhbejjaaaGreatEngCompact
set_option linter.unusedVariables false
set_option linter.unusedSimpArgs false
namespace Go.Sym
open Go Go.bM
def Fp:Nat:=400
def ah.base(bJ:Nat->Option qC)(IF RM:Nat->Nat->Option bn)(Lq:Nat->Nat->Option (Nat×Ty))(unr:Nat->Nat->Bool)(Ni:Nat->Nat->Option Ty):ah:={fns:=bJ,vE:=λ_=>none,loops:=λ_ _ _=>none,IF,RM,Lq,unr,Ni}
def ah.q9(E:ah)(f:Nat)(c:Callee):ah:={E with vE:=λg=>match Nat.beq g f with|true=>some c|false=>E.vE g}
def ah.aa(E:ah)(N ctx i:Nat)(T:bq)(outs:bn):ah:={E with loops:=λctx' i' c=>match Nat.beq ctx' ctx&&Nat.beq i' i with|true=>some ⟨T,outs,Nk (BZ E Fp ctx i c T outs) N⟩|false=>E.loops ctx' i' c}
theorem Yg(bJ:Tb)(IF RM:Nat->Nat->Option bn)(Lq:Nat->Nat->Option (Nat×Ty))(unr:Nat->Nat->Bool)(Ni:Nat->Nat->Option Ty):az bJ (ah.base bJ IF RM Lq unr Ni):=⟨rfl,λ_ _ h=>(by cases h),λ_ _ _ _ h=>(by cases h)⟩
theorem az.q9{bJ:Tb}{E:ah}(h:az bJ E){f:Nat}{c:Callee}(hc:o8 bJ f c):az bJ (E.q9 f c):=by
 refine⟨h.fns,λg d hd=>?_,h.loops⟩;simp only[ah.q9]at hd;split at hd;.rename_i he;rw[aw he];injection hd with hd;subst hd;exact hc
 .exact h.vE g d hd
theorem az.aa{bJ:Tb}{E:ah}(h:az bJ E)(N ctx i:Nat)(T:bq)(outs:bn):az bJ (E.aa N ctx i T outs):=by
 refine⟨h.fns,h.vE,λctx' i' c L hL=>?_⟩;simp only[ah.aa]at hL;split at hL;.injection hL with hL;subst hL;exact ND h Fp ctx i c T outs N
 .exact h.loops ctx' i' c L hL
theorem o8.plain{Fs:Tb}{f:Nat}{args:List uD}{ta tr:List Ty}{res:List (Bool×List gZ)}{rk:Nat}{F G:(rS ta).den->Option (rS tr).den}(h:o8 Fs f ⟨args,ta,res,tr,rk,F⟩)(e:G=F):o8 Fs f ⟨args,ta,res,tr,rk,G⟩:=by subst e;exact h
def B1:List (Nat×qC)->Nat->Option qC|[],_=>none|(g,fn)::r,f=>match Nat.beq g f with|true=>some fn|false=>B1 r f
inductive wH(P:Program)(dm:Nat->Option TypeId)(md:Nat->bM.Mode):List (Nat×qC)->Prop where|nil:wH P dm md []|cons{g:Nat}{fn:qC}{r:List (Nat×qC)}:Og P dm md g=some fn->wH P dm md r->wH P dm md ((g,fn)::r)
theorem RU{P:Program}{dm:Nat->Option TypeId}{md:Nat->bM.Mode}{l:List (Nat×qC)}(h:wH P dm md l):∀f fn,B1 l f=some fn->Og P dm md f=some fn:=by induction h with|nil=>intro f fn h;cases h|@cons g fn' r h1 _ ih=>
 intro f fn h;simp only[B1]at h;split at h;.rename_i hb;have e:=aw hb;subst e;injection h with h;subst h;exact h1
 .exact ih f fn h
def fixF{α β:Type}(step:Nat->(α->Option β)->α->Option β):Nat->α->Option β|0,_=>none|n+1,x=>step n (fixF step n) x
def vg(t:Nat):AC->Nat->Option AC
 |.seq a b,i=>match Nat.blt t (i+u7 a)with|true=>vg t a i|false=>vg t b (i+u7 a)
 |.cond _ a b,i=>match Nat.blt t (i+1+u7 a)with|true=>vg t a (i+1)|false=>vg t b (i+1+u7 a)
 |.block _ c,i=>vg t c (i+1)|.loop c,i=>match Nat.beq t i with|true=>some c|false=>vg t c (i+1)
 |_,_=>none
def acg(fn:qC)(t:Nat):AC:=(vg t fn.body 0).getD .skip
def gZ.tys:gZ->List Ty|.int k=>[.int k]|.bool=>[.bool]|.er=>[.bool]|.str=>[.str]|.sl t _=>[.sl t]|.fW t _=>[t]|_=>[]
def gZ.Ru:gZ->gZ|.sl t _=>.sl t .bC|c=>c
def cF(T:Ty):List gZ:=(aZ T).map gZ.Ru
def uD.tys:uD->List Ty|.c x=>x.tys|.agg l=>l.flatMap gZ.tys|.box l=>l.flatMap gZ.tys|.fk _=>[]
def tZ.tys:tZ->List Ty|.c x=>x.tys|.agg l=>l.flatMap gZ.tys|.fk _ l=>l.flatMap gZ.tys
def Nh.tys:Nh->List Ty|.row _ t=>[.sl t]|.box _ l=>l.flatMap gZ.tys|.set _=>[.sl .str]
def agq(l:List (Nat×tZ)):List Ty:=l.flatMap λx=>x.2.tys
def tm(slots:List (Nat×tZ))(outer:List (List (Nat×tZ)))(mem:List (Nat×Nat×Nh))(lvs:Nat)(aK:List Nat)(nv:Nat):bq:=⟨slots,outer,mem,lvs,aK,nv,agq slots++(outer.flatMap agq++mem.flatMap λx=>x.2.2.tys)⟩
structure bN where
 a:List uD
 r:List (Bool×List gZ)k:Nat
 b:List (Nat×Nat×Nat×Ty)u:List (Nat×Nat)e:List (Nat×Nat×Ty)c:List (Nat×Nat×bn)
abbrev sg(a:List uD)(r:List (Bool×List gZ)):bN:=⟨a,r,0,[],[],[],[]⟩
def bN.ta(s:bN):List Ty:=s.a.flatMap uD.tys
def bN.tr(s:bN):List Ty:=s.r.flatMap λx=>x.2.flatMap gZ.tys
def bN.vE(s:bN)(F:(rS s.ta).den->Option (rS s.tr).den):Callee:=⟨s.a,s.ta,s.r,s.tr,s.k,F⟩
def lk{β:Type}:List (Nat×Nat×β)->Nat->Nat->Option β|[],_,_=>none|(a,b,x)::r,c,i=>match Nat.beq a c&&Nat.beq b i with|true=>some x|false=>lk r c i
def lkU:List (Nat×Nat)->Nat->Nat->Bool|[],_,_=>false|(a,b)::r,c,i=>Nat.beq a c&&Nat.beq b i||lkU r c i
def ah.on(E:ah)(s:bN):ah:={E with IF:=lk s.c,Lq:=lk s.b,unr:=lkU s.u,Ni:=lk s.e}
def ah.fn(E:ah)(f:Nat)(s:bN):(rS s.ta).den->Option (rS s.tr).den:=ZN E Fp f s.a s.ta s.r s.tr s.k
def ah.put(E:ah)(f:Nat)(s:bN)(F:(rS s.ta).den->Option (rS s.tr).den):ah:=E.q9 f (s.vE F)
theorem az.on{bJ:Tb}{E:ah}(h:az bJ E)(s:bN):az bJ (E.on s):=⟨h.fns,h.vE,h.loops⟩
theorem az.put{bJ:Tb}{E E':ah}(h:az bJ E)(h':az bJ E')(f:Nat)(s:bN)(F:(rS s.ta).den->Option (rS s.tr).den)(e:F=E'.fn f s):az bJ (E.put f s F):=h.q9 ((ZV h' Fp f s.a s.ta s.r s.tr s.k).plain e)
def lp(E:ah)(c i:Nat)(fn:qC)(t:Nat)(T:bq)(O:bn):Nat->(rS T.tys).den->Option (oY O).den:=Nk (BZ E Fp c i (acg fn t) T O)
def G1:List Nat->Nat->Bool|[],_=>false|a::r,f=>Nat.beq a f||G1 r f
def Pt(l:List Nat)(tq:Nat->qC)(f:Nat):Option qC:=match G1 l f with|true=>some (tq f)|false=>none
theorem ach{P:Program}{dm:Nat->Option TypeId}{md:Nat->bM.Mode}{tq:Nat->qC}{l:List Nat}(hq:∀f,tq f=(KE P dm md f).getD default)(h:l.all (λf=>(KE P dm md f).isSome)=true):∀f fn,Pt l tq f=some fn->KE P dm md f=some fn:=by
 have key:∀l:List Nat,l.all (λf=>(KE P dm md f).isSome)=true->∀f,G1 l f=true->(KE P dm md f).isSome=true:=by intro l h f hm;induction l with|nil=>cases hm|cons a r ih=>
  simp only[d9,am]at h;simp only[G1,f5]at hm;rcases hm with hm|hm;.rw[<-aw hm];exact h.1
  .exact ih h.2 hm
 intro f fn hf;unfold Pt at hf;split at hf;.rename_i hm;have:=key l h f hm;injection hf with hf;subst hf;rw[hq];cases he:KE P dm md f with|none=>rw[he]at this;cases this|some x=>rfl
 .cases hf
def NI(P:Program)(dm:Nat->Option TypeId)(md:Nat->bM.Mode)(l:List Nat)(f:Nat):Bool:=match RW P dm md f with|some d=>G1 l d.g|none=>true
theorem Yh{P:Program}{dm:Nat->Option TypeId}{md:Nat->bM.Mode}{tq:Nat->qC}{l:List Nat}(hq:∀f,tq f=(KE P dm md f).getD default)(h:l.all (λf=>(KE P dm md f).isSome)=true)(hd:l.all (NI P dm md l)=true):R3 P dm md (Pt l tq):=by
 refine⟨ach hq h,λf d hf hdf=>?_⟩;have hm:G1 l f=true:=by
  unfold Pt at hf;split at hf;.rename_i hm;exact hm
  .cases hf
 have key:∀r:List Nat,(r.all (NI P dm md l)=true)->G1 r f=true->G1 l d.g=true:=by intro r h hm;induction r with|nil=>cases hm|cons a r ih=>
   simp only[d9,am]at h;simp only[G1,f5]at hm;rcases hm with hm|hm;.have:=h.1;unfold NI at this;rw[aw hm,hdf]at this;exact this
   .exact ih h.2 hm
 simp[Pt,key l hd hm]
abbrev W1(a:Int):Int:=IntKind.u8.wrap a
abbrev avw(a:Int):Int:=IntKind.u16.wrap a
abbrev avx(a:Int):Int:=IntKind.u32.wrap a
abbrev aL(a:Int):Int:=IntKind.u64.wrap a
abbrev wi8(a:Int):Int:=IntKind.i8.wrap a
abbrev avy(a:Int):Int:=IntKind.i16.wrap a
abbrev avz(a:Int):Int:=IntKind.i32.wrap a
abbrev av(a:Int):Int:=IntKind.i64.wrap a
def uw(k:IntKind)(a b:Int):Int:=k.wrap (BitVec.ofInt k.bits a&&&BitVec.ofInt k.bits b).toNat
def Ct(k:IntKind)(a b:Int):Int:=k.wrap (BitVec.ofInt k.bits a|||BitVec.ofInt k.bits b).toNat
def Yi(k:IntKind)(a b:Int):Int:=k.wrap (BitVec.ofInt k.bits a^^^BitVec.ofInt k.bits b).toNat
def pq(k:IntKind)(a b:Int):Int:=k.wrap (BitVec.ofInt k.bits a&&&~~~(BitVec.ofInt k.bits b)).toNat
end Go.Sym
namespace Go.Sym
open Go Go.bM
theorem SF{d:fS}{r:List fS}:ZX (d::r)↔d.t.ok d.v/\ZX r:=by simp[ZX]
theorem zP{H:Type}{enc:TypeId×Value->H}{P:Program}{w:World}{base:Nat}{sp:Nat->Bool}{held:Bool}:∀{ts:List TypeId}{vs:List Value}{ds:List (DataW H)}{ps:List MemPlace},DataW.TrodAll enc P w base sp held ts vs ds ps->ds.length=ts.length|[],[],[],_,_=>rfl|_::_,_::_,_::_,_,h=>by obtain⟨p,q,_,h2,_⟩:=h;simp[zP h2]|[],_::_,_,_,h=>h.elim|[],[],_::_,_,h=>h.elim|_::_,[],_,_,h=>h.elim|_::_,_::_,[],_,h=>h.elim
theorem Yj(P:Program):Pq P none:=λ_ h=>by cases h
theorem Yk{P:Program}{W:World}{b:Nat}{args:Array Value}{params:Array TypeId}{l:List zO}(hp:params=(l.map (·.1)).toArray)(h:∀(j:Nat)t v,params[j]?=some t->args[j]?=some v->Value.okWide P W .any b t v):∀(j:Nat)(p:zO)v,l[j]?=some p->args[j]?=some v->Value.okWide P W .any b p.1 v:=λj p v hj hv=>h j p.1 v (by grind) hv
end Go.Sym
namespace Go.Proofs
open Go.Shelf
def Tryz.Jt:Go.Shelf.Ren:=⟨λ|189=>217|125=>234|257=>233|128=>244|129=>245|294=>235|295=>236|296=>237|297=>238|298=>239|299=>240|216=>241|300=>242|301=>243|328=>246|329=>247|330=>248|331=>249|332=>250|215=>251|343=>252|n=>n,λ|28=>101|3=>3|46=>145|0=>0|51=>315|53=>29|4=>4|183=>309|182=>308|131=>157|5=>5|9=>9|218=>317|222=>321|228=>323|229=>47|n=>n,λ|n=>n⟩
theorem Tryz.Yl:Go.Proofs.Lays.n189 Tryz.prog Tryz.Jt:={
 mixed:=by kernel_rfl
 f125:=Tryz.func234.trans (i6 some (by kernel_rfl))
 f128:=Tryz.func244.trans (i6 some (by kernel_rfl))
 f129:=Tryz.func245.trans (i6 some (by kernel_rfl))
 f189:=Tryz.func217.trans (i6 some (by kernel_rfl))
 f215:=Tryz.func251.trans (i6 some (by kernel_rfl))
 f216:=Tryz.func241.trans (i6 some (by kernel_rfl))
 f257:=Tryz.func233.trans (i6 some (by kernel_rfl))
 f294:=Tryz.func235.trans (i6 some (by kernel_rfl))
 f295:=Tryz.func236.trans (i6 some (by kernel_rfl))
 f296:=Tryz.func237.trans (i6 some (by kernel_rfl))
 f297:=Tryz.func238.trans (i6 some (by kernel_rfl))
 f298:=Tryz.func239.trans (i6 some (by kernel_rfl))
 f299:=Tryz.func240.trans (i6 some (by kernel_rfl))
 f300:=Tryz.func242.trans (i6 some (by kernel_rfl))
 f301:=Tryz.func243.trans (i6 some (by kernel_rfl))
 f328:=Tryz.func246.trans (i6 some (by kernel_rfl))
 f329:=Tryz.func247.trans (i6 some (by kernel_rfl))
 f330:=Tryz.func248.trans (i6 some (by kernel_rfl))
 f331:=Tryz.func249.trans (i6 some (by kernel_rfl))
 f332:=Tryz.func250.trans (i6 some (by kernel_rfl))
 f343:=Tryz.func252.trans (i6 some (by kernel_rfl))
 t0:=Tryz.underlying0
 a0:=Tryz.isAgg0
 z0:=Tryz.sizeOf0
 v0:=Tryz.zeroValue0
 t3:=Tryz.underlying3
 a3:=Tryz.isAgg3
 z3:=Tryz.sizeOf3
 v3:=Tryz.zeroValue3
 t4:=Tryz.underlying4
 a4:=Tryz.isAgg4
 z4:=Tryz.sizeOf4
 v4:=Tryz.zeroValue4
 t5:=Tryz.underlying5
 a5:=Tryz.isAgg5
 z5:=Tryz.sizeOf5
 v5:=Tryz.zeroValue5
 t9:=Tryz.underlying9
 a9:=Tryz.isAgg9
 z9:=Tryz.sizeOf9
 v9:=Tryz.zeroValue9
 t28:=Tryz.underlying101
 a28:=Tryz.isAgg101
 z28:=Tryz.sizeOf101
 v28:=Tryz.zeroValue101
 t46:=Tryz.underlying145
 a46:=Tryz.isAgg145
 z46:=Tryz.sizeOf145
 v46:=Tryz.zeroValue145
 t51:=Tryz.underlying315
 a51:=Tryz.isAgg315
 z51:=Tryz.sizeOf315
 v51:=Tryz.zeroValue315
 t53:=Tryz.underlying29
 a53:=Tryz.isAgg29
 z53:=Tryz.sizeOf29
 v53:=Tryz.zeroValue29
 t131:=Tryz.underlying157
 a131:=Tryz.isAgg157
 z131:=Tryz.sizeOf157
 v131:=Tryz.zeroValue157
 t182:=Tryz.underlying308
 a182:=Tryz.isAgg308
 z182:=Tryz.sizeOf308
 v182:=Tryz.zeroValue308
 t183:=Tryz.underlying309
 a183:=Tryz.isAgg309
 z183:=Tryz.sizeOf309
 v183:=Tryz.zeroValue309
 t218:=Tryz.underlying317
 a218:=Tryz.isAgg317
 z218:=Tryz.sizeOf317
 v218:=Tryz.zeroValue317
 t222:=Tryz.underlying321
 a222:=Tryz.isAgg321
 z222:=Tryz.sizeOf321
 v222:=Tryz.zeroValue321
 t228:=Tryz.underlying323
 a228:=Tryz.isAgg323
 z228:=Tryz.sizeOf323
 v228:=Tryz.zeroValue323
 t229:=Tryz.underlying47
 a229:=Tryz.isAgg47
 z229:=Tryz.sizeOf47
 v229:=Tryz.zeroValue47}
def Tryz.LQ:Go.Shelf.Ren:=⟨λ|20=>218|n=>n,λ|22=>101|3=>3|4=>4|0=>0|n=>n,λ|n=>n⟩
theorem Tryz.aci:Go.Proofs.Lays2.n20 Tryz.prog Tryz.LQ:={
 mixed:=by kernel_rfl
 f20:=Tryz.func218.trans (i6 some (by kernel_rfl))
 t0:=Tryz.underlying0
 a0:=Tryz.isAgg0
 z0:=Tryz.sizeOf0
 v0:=Tryz.zeroValue0
 t3:=Tryz.underlying3
 a3:=Tryz.isAgg3
 z3:=Tryz.sizeOf3
 v3:=Tryz.zeroValue3
 t4:=Tryz.underlying4
 a4:=Tryz.isAgg4
 z4:=Tryz.sizeOf4
 v4:=Tryz.zeroValue4
 t22:=Tryz.underlying101
 a22:=Tryz.isAgg101
 z22:=Tryz.sizeOf101
 v22:=Tryz.zeroValue101
 i3:=by kernel_rfl}
end Go.Proofs
namespace Go.Sym
open Go Go.bM
noncomputable section
def SG(sz:Nat):qC:=⟨1,9,[.t 2],(.seq (.region [⟨(some 2),.HS (.c (.own [] .full)),none,0,0⟩] false) (.seq (.region [⟨(some 3),.HS (.t 0),none,0,0⟩,⟨(some 4),.HS (.t 0),none,0,0⟩,⟨(some 5),.len (.t 4),none,0,0⟩,⟨(some 6),.HS (.t 0),none,0,0⟩,⟨(some 7),.len (.t 6),none,0,0⟩,⟨(some 8),.slice sz (.t 3) none (some (.t 5)) (some (.t 7)),none,0,0⟩,⟨(some 2),.HS (.t 8),none,0,0⟩] false) .ret)),false⟩
def acj(a:AV)(n:Nat):St:={slots:=nE (nE (nE (nE (nE (nE (dS 0 [a] .lf) (some 2) (.own [] .full)) (some 3) a) (some 4) a) (some 5) (p4 n)) (some 6) a) (some 7) (p4 n),mem:=[.lf],aK:=.lf,nv:=8}
def agr(a:AV)(n:Nat)(call:bM.Call)(sh:Nat->Bool)(o:Option AV):Option (AV×List (Tr bH)×Tr Unit×Nat):=match(match Option.map (λs'=>(AX.normal,s')) (match o.bind fT.pure with|none=>none|some e=>ji call sh 1 6 [⟨(some 2),.HS (.t 8),none,0,0⟩] ((acj a n).app (some 8) e))with|some (.normal,s')=>exec call sh 47 .ret s'|r=>r)with|some (.normal,s)|some (.ret,s)=>(jV s [.t 2]).map λvs=>(iZ vs,s.mem,s.aK,s.nv)|_=>none
theorem ye{T:Tb}{f:Nat}{fn:qC}(hf:T.fs f=some fn)(n:Nat)(args:List AV)(mem:List (Tr bH))(aK:Tr Unit)(nv:Nat):jo T (n+1) f args mem aK nv=(match Nat.beq args.length fn.np with|false=>none|true=>match exec (jo T n) (λg=>((T.fs g).map (·.sh)).getD false) n fn.body {slots:=dS 0 args .lf,mem,aK,nv}with|some (.normal,s)|some (.ret,s)=>(jV s fn.res).map λvs=>(iZ vs,s.mem,s.aK,s.nv)|_=>none):=by simp[jo,hf];rfl
theorem SH{T:Tb}{f sz:Nat}(hf:T.fs f=some (SG sz))(els:List (List D))(a:AV)(hs:els.all (λe=>e.length==sz)=true)(h:a=.d (.sl els)\/∃o,o≠.bC/\a=.own els o):∃cm ts nv,jo T 50 f [a] [.lf] .lf 0=some (.own els .full,cm,ts,nv):=by
 have go:∀a:AV,jo T 50 f [a] [.lf] .lf 0=agr a els.length (jo T 49) (λg=>((T.fs g).map (·.sh)).getD false) (fo sz a 0 (some els.length) (some els.length))->fo sz a 0 (some els.length) (some els.length)=some (.own els .full)->∃cm ts nv,jo T 50 f [a] [.lf] .lf 0=some (.own els .full,cm,ts,nv):=by intro a h1 h2;rw[h2]at h1;exact⟨_,_,_,h1⟩
 rcases h with rfl|⟨o,ho,rfl⟩;.refine go _ ?_ (by simp[fo,hs]);rw[show(50:Nat)=49+1from rfl,ye hf];kernel_rfl
 .cases o with|bC=>exact absurd rfl ho|full=>refine go _ ?_ (by simp[fo,hs]);rw[show(50:Nat)=49+1from rfl,ye hf];kernel_rfl|cK=>refine go _ ?_ (by simp[fo,hs]);rw[show(50:Nat)=49+1from rfl,ye hf];kernel_rfl
def AQ(t:Ty):Callee:=⟨[.c (.sl t .d)],[.sl t],[(false,[.sl t .full])],[.sl t],65535,λl=>some l⟩
theorem LR{T:Tb}{f:Nat}{t:Ty}(hf:T.fs f=some (SG t.size)):o8 T f (AQ t):=by refineλl y hy=>⟨[.c (.sl t l .d)],rfl,λxs has=>?_⟩;cases hy;match xs,has with
 |[a],ha=>
  obtain⟨cm,ts,nv,hr⟩:=SH hf (bx t l) a (gK t l) ha.1;refine⟨50,_,cm,ts,nv,λm hm=>Nr 50 m hm _ _ _ _ _ _ hr,λws B6=>⟨λh=>absurd rfl h,λrow lv sl au p DL us w _ Fk _ hp _ hw=>?_⟩⟩;have:ws=[(false,[.sl t l .full])]:=by have:nN (AQ t).res (unpack (AQ t).tr l)=some ([(false,[.sl t l .full])],[]):=rfl<;>grind
  subst this;cases hp;have hw:w=.c (.sl t l .full):=by cases hw;grind
  subst hw;have Fk:row%65536=65535:=Fk;refine⟨.own (bx t l) .full,?_,λ_ _ _ _=>rfl⟩;simp only[iN,lM,bA,Fk,f0,show Nat.beq 1 65535=false from rfl,show Nat.beq 65535 65535=true from rfl,t6];rfl
end
end Go.Sym
namespace Go.Sym
open Go Go.bM
def am7:Callee:=⟨[],[],[(false,[.bool])],[.bool],0,λ_=>some true⟩
end Go.Sym
namespace Go.Proofs.YtkdilffhbejjaaaGreat
open Go Go.bM Go.Sym
def md:Nat->bM.Mode:=λf=>match f with|81=>⟨[],true⟩|59=>⟨[],true⟩|158=>⟨[(27,2),(44,2),(65,2),(104,2)],false⟩|159=>⟨[(3,6),(17,1)],false⟩|124=>⟨[(13,1)],false⟩|123=>⟨[(9,1)],false⟩|199=>⟨[],true⟩|221=>⟨[],true⟩|198=>⟨[],true⟩|191=>⟨[],true⟩|163=>⟨[(6,10682761221)],true⟩|119=>⟨[(2,65540)],false⟩|89=>⟨[],true⟩|90=>⟨[],true⟩|118=>⟨[],true⟩|88=>⟨[],true⟩|122=>⟨[(20,65537)],false⟩|91=>⟨[],true⟩|137=>⟨[],true⟩|187=>⟨[(28,1)],false⟩|136=>⟨[(24,3),(40,1),(10,1)],true⟩|106=>⟨[(13,1)],false⟩|111=>⟨[(2,65540),(38,1)],false⟩|107=>⟨[(13,65537)],false⟩|143=>⟨[(6,2)],true⟩|142=>⟨[],true⟩|145=>⟨[(6,2)],true⟩|146=>⟨[(11,2)],false⟩|189=>⟨[(6,2)],true⟩|108=>⟨[(37,2),(86,2),(119,2),(126,2),(133,2),(139,2),(152,2),(165,2),(182,2),(218,2)],false⟩|149=>⟨[(19,131071)],false⟩|109=>⟨[(45,3),(105,1),(28,1),(25,1),(91,1),(31,1)],false⟩|154=>⟨[],true⟩|110=>⟨[(74,1),(39,1)],false⟩|62=>⟨[],true⟩|114=>⟨[(22,1)],false⟩|86=>⟨[(37,1)],false⟩|96=>⟨[],true⟩|95=>⟨[],true⟩|20=>⟨[(12,1)],false⟩|11=>⟨[(2,14),(45,14)],true⟩|5=>⟨[(16,131071)],false⟩|169=>⟨[(2,65540),(19,1),(3,65540),(12,1)],false⟩|166=>⟨[(2,65540),(5,65537)],false⟩|168=>⟨[(6,65537)],false⟩|167=>⟨[(7,65537)],false⟩|172=>⟨[(9,65537)],false⟩|128=>⟨[(13,65537)],false⟩|174=>⟨[(10,1)],false⟩|176=>⟨[(27,1),(24,1)],false⟩|177=>⟨[(20,1)],false⟩|182=>⟨[],true⟩|131=>⟨[(11,131071)],false⟩|98=>⟨[(19,10)],false⟩|186=>⟨[(8,1),(5,1)],false⟩|134=>⟨[(9,65538),(19,1)],false⟩|102=>⟨[(35,65538)],false⟩|74=>⟨[(18,65538)],false⟩|49=>⟨[(26,1)],false⟩|_=>⟨[],false⟩
def dm:Nat->Option TypeId:=λf=>match f with|40=>some 30|41=>some 33|42=>some 34|217=>some 1000000|218=>some 1000001|_=>none
def Ym:List Nat:=[17,9,4,196,81,59,220,197,161,158,159,115,124,123,160,116,199,221,198,162,191,192,193,194,195,156,157,155,125,126,94,117,87,163,119,89,90,118,88,120,121,122,91,66,36,135,137,187,136,106,111,138,139,140,107,141,219,188,144,143,142,145,146,147,189,148,108,190,93,152,149,150,151,109,153,154,110,112,79,80,57,30,58,60,31,54,25,82,83,84,61,32,62,63,113,27,15,114,85,77,55,86,64,33,65,34,35,37,92,67,96,95,68,38,78,56,69,39,19,18,10,20,11,5,223,202,203,200,222,201,164,105,104,103,206,207,224,204,205,165,127,169,166,168,167,170,208,171,172,128,97,173,209,174,178,225,210,226,227,228,229,230,231,211,175,232,213,76,183,212,176,214,215,177,129,216,182,184,131,179,180,181,130,98,70,43,99,71,44,28,47,100,101,72,45,73,132,185,133,186,134,102,74,46,48,22,75,49,50,23,51,52,53,24,13,21,12,6,26,14,7,29,16,8,3]
@[irreducible]noncomputable def tq(f:Nat):qC:=(KE Tryz.prog dm md f).getD default
def am8:Go.bM.Call:=R2
noncomputable def bJ:Tb:=⟨Pt Ym tq,am8⟩
theorem ags(f:Nat):tq f=(KE Tryz.prog dm md f).getD default:=by kernel_rfl
set_option maxRecDepth 100000in theorem Yn:Ym.all (λf=>(KE Tryz.prog dm md f).isSome)=true:=by kernel_rfl
set_option maxRecDepth 100000in theorem Yo:Ym.all (NI Tryz.prog dm md Ym)=true:=by kernel_rfl
theorem agt:R3 Tryz.prog dm md bJ.fs:=Yh ags Yn Yo
theorem Yp:jZ Tryz.prog 40 30:=⟨λ_ _=>⟨_,Tryz.func40,by kernel_rfl,by kernel_rfl,by kernel_rfl,by kernel_rfl⟩,λh=>absurd h (by decide),λh=>absurd h (by decide)⟩
theorem Yq:jZ Tryz.prog 41 33:=⟨λ_ _=>⟨_,Tryz.func41,by kernel_rfl,by kernel_rfl,by kernel_rfl,by kernel_rfl⟩,λh=>absurd h (by decide),λh=>absurd h (by decide)⟩
theorem Yr:jZ Tryz.prog 42 34:=⟨λ_ _=>⟨_,Tryz.func42,by kernel_rfl,by kernel_rfl,by kernel_rfl,by kernel_rfl⟩,λh=>absurd h (by decide),λh=>absurd h (by decide)⟩
theorem SI:jZ Tryz.prog 217 1000000:=⟨λh=>absurd rfl h,λ_=>OB Tryz.Yl ⟨_,Tryz.func217,by kernel_rfl,by kernel_rfl⟩,λh=>absurd h (by decide)⟩
theorem SJ:jZ Tryz.prog 218 1000001:=⟨λ_ h=>absurd rfl h,λh=>absurd h (by decide),λ_=>Gk Tryz.aci ⟨_,Tryz.func218,by kernel_rfl,by kernel_rfl⟩⟩
theorem agu:∀f T,dm f=some T->jZ Tryz.prog f T:=by
 intro f T h;unfold dm at h;split at h;.injection h with h;subst h;exact Yp
 .injection h with h;subst h;exact Yq
 .injection h with h;subst h;exact Yr
 .injection h with h;subst h;exact SI
 .injection h with h;subst h;exact SJ
 .cases h
end Go.Proofs.YtkdilffhbejjaaaGreat
