/- A part of the proof: EngLb, EngLbA, SymLb. -/
import Derived.Test.YtdogilonhnbapaaGreatDoorSymB
import Derived.Lib.AtoiAll
import Derived.Shelf.Strings.Fields
import Derived.Shelf.Strings.Split
import Derived.Shelf.Strconv.Itoa3
import Derived.Lib.Atoi
import Derived.Shelf.Strconv.Atoi
import Derived.Shelf.Strconv.AtoiErr
import Derived.Shelf.Strconv.AtoiAll
import Derived.Test.YtdogilonhnbapaaGreatDoorSymK
import Derived.KernelRfl
set_option linter.unusedSimpArgs false
namespace Go.bI
open Go Go.Shelf Go.RowKit
set_option linter.unusedVariables false
noncomputable section
def ER(mem:List (Tr bC))(aG:Tr Unit)(nv:Nat):Bool:=match mem,aG,nv with|[.lf],.lf,0=>true|_,_,_=>false
theorem S3{Y:Cx}(hF:∀b o,Y.F b o->b<Y.w.heap.size)(hl:Low Y):aH Y [.lf] .lf:=by
  refine⟨λlv sl e he=>?_,λv hv=>by simp at hv,λk k' v v' L L' a _ _ _ _ _=>?_,hF,hl⟩;.unfold aK at he;grind[Tr.get?,mM,bC.ai]
  . rcases a with⟨lv,_,_,_,he,_⟩|⟨_,he⟩;.unfold aK at he;grind[bC.fz,bC.ai,Tr.get?,bL,Holds]
    simp_all
def lW(a b:Go.bI.Call):Go.bI.Call:=λf args mem aG nv=>match a f args mem aG nv with|some r=>some r|none=>b f args mem aG nv
theorem GJ{P:Program}{a b:Go.bI.Call}(ha:cI P a)(hb:cI P b):cI P (lW a b):=by
 intro f args mem aG nv r mem' ri Nt h;unfold lW at h;split at h;.rename_i he;cases h;exact ha f args mem aG nv _ mem' ri Nt he
 .exact hb f args mem aG nv r mem' ri Nt h
def rC(f:Nat)(ans:List AV->Option AV):Go.bI.Call:=λg args mem aG nv=>match ER mem aG nv&&Nat.beq g f with|true=>(ans args).map λv=>(v,[.lf],.lf,0)|false=>none
def Cx.behind(X:Cx)(w':World):Cx:={w:=w',F:=λb o=>X.F b o\/(X.w.heap.size<=b/\b<w'.heap.size),ρ:=X.ρ,old:=X.old}
theorem Jv{X:Cx}(hl:∀b,X.old b->b<X.w.heap.size){w':World}(h:Below X.w.heap.size X.w w'):eu X.old X.w w':=⟨h.os,h.tape,h.output,h.size,λb hb=>h.block b (hl b hb)⟩
theorem Av{P:Program}{f:Nat}{ans:List AV->Option AV}(hfn:∃fn,P.funcs[f]?=some fn/\fn.body.isSome=true/\(fn.name== "runtime.NumGoroutine")=false)(h:∀args v,ans args=some v->∀(X:Cx)(bK:Array Value),Low X->aC (V1 X) args bK.toList->Calls P f bK X.w λe w'=>∃u,e=.returned u/\Below X.w.heap.size X.w w'/\VR (X.behind w') v u):cI P (rC f ans):=by
  intro g args mem aG nv r mem' ri Nt hr X bK hmem hdom hargs;unfold rC at hr;split at hr
  . rename_i hq;rw[Bool.and_eq_true]at hq;have hg:=Nat.eq_of_beq_eq_true hq.2;subst hg;obtain⟨v,hv,he⟩:=aN hr;simp at he;obtain⟨rfl,rfl,rfl,rfl⟩:=he;have hn:nv=0:=by grind[ER,Cx.behind,VR,V1,aC]
    subst hn;refine⟨hfn,(h args v hv X bK hmem.ql hargs).mono ?_⟩;rintro e w'⟨u,rfl,hb,hvr⟩;have hst:=Jv hmem.low hb;refine⟨X.behind w',u,rfl,rfl,⟨rfl,hst,λb o hb=>.inl hb,λb o hF=>hb.cell (hmem.n8 b o hF),λ_ _ h=>h,λb o hF=>?_⟩,hvr,S3 (λb o hF=>?_) ⟨λb ho=>Nat.lt_of_lt_of_le (hmem.low b ho) hb.size,hmem.ql.gb,DJ (λb hg=>hb.block b (hmem.low b (hmem.ql.gb b hg))) hmem.ql.gk⟩,Nat.le_refl _,λu L h=>.inl h⟩
    . rcases hF with hF|hF;.exact .inl hF
      .exact .inr λho=>absurd (hmem.low b ho) (by omega)
    . rcases hF with hF|hF;.exact Nat.lt_of_lt_of_le (hmem.n8 b o hF) hb.size
      .exact hF.2
  grind
theorem N3{X:Cx}{t:TypeId}{l:List ByteArray}{ls:List (List UInt8)}(hls:l.map (·.data.toList)=ls){n:Nat}(hn:n=l.length):VR (X.behind (X.w.alloc (.cells (l.map Value.string).toArray t))) (.d (.sl (ls.map λx=>[.sc (.string ⟨x.toArray⟩)]))) (.slice (some ⟨X.w.heap.size,0,none⟩) n n):=by
 subst hn;have hlen:(ls.map λx=>([.sc (.string ⟨x.toArray⟩)]:List D)).length=l.length:=by grind
 refine .fy (show DR _ _ _ _ from DR.gp (b:=X.w.heap.size) (o:=0) (sz:=1) ⟨?_,λi e j x h1 h2=>?_⟩ hlen (Nat.le_refl _) λ_=>rfl);.grind
 .rw[List.getElem?_map]at h1;cases hi:ls[i]?with|none=>grind|some y=>rw[hi]at h1;cases h1;cases j with|succ j=>grind|zero=>cases h2;subst hls;rw[List.getElem?_map]at hi;cases hb:l[i]?with|none=>grind|some s=>
  rw[hb]at hi;cases hi;refine⟨.inr ⟨Nat.le_refl _,by show _<(X.w.heap.push _).size;rw[Array.size_push];omega⟩,.string s,?_,?_⟩;.simp_all[Cx.behind]
  .exact .sc _ rfl
theorem Aw{X:Cx}{s:ByteArray}{v:Value}(h:V1 X (.d (.sc (.string s))) v):v=.string s:=by cases h with|sc _ _=>rfl
theorem Xc{X:Cx}{k:IntKind}{n:Int}{v:Value}(h:V1 X (.d (.sc (.int k n))) v):v=.int k n:=by cases h with|sc _ _=>rfl
theorem args1{X:Cx}{a:AV}{bK:Array Value}(h:aC (V1 X) [a] bK.toList):∃v,bK=#[v]/\V1 X a v:=by match hv:bK.toList,h with|[v],⟨h1,_⟩=>grind
theorem args2{X:Cx}{a b:AV}{bK:Array Value}(h:aC (V1 X) [a,b] bK.toList):∃u v,bK=#[u,v]/\V1 X a u/\V1 X b v:=by match hv:bK.toList,h with|[u,v],⟨h1,h2,_⟩=>grind
def small(l:List UInt8):Bool:=l.all λb=>Nat.blt b.toNat 128
def LP:List AV->Option AV
 |[.d (.sc (.string s))]=>match small s.data.toList&&Nat.blt s.data.toList.length 1000000with|true=>some (.d (.sl ((Lib.fields s.data.toList).map λx=>[.sc (.string ⟨x.toArray⟩)])))|false=>none
 |_=>none
theorem Jw(s:ByteArray):s.size=s.data.toList.length:=Lib.size_eq s
theorem PO{P:Program}{ρ:Ren}(L:Go.Proofs.Lays.n157 P ρ)(hfn:∃fn,P.funcs[ρ.f 157]?=some fn/\fn.body.isSome=true/\(fn.name== "runtime.NumGoroutine")=false)(hi9:(P.info? (ρ.t 9)).map (λi=>(i.zero,i.size,i.bytes))=some (some (.string ByteArray.empty),1,16))(hT:∀w,Ng w->∀c:Nat,c<256->w.cell? ⟨ρ.g 0,c,none⟩=some (.int .u8 (if Lib.isSp (UInt8.ofNat c)then 1 else 0))):cI P (rC (ρ.f 157) LP):=by
  refine Av hfn λargs v nQ X bK n9 hargs=>?_;unfold LP at nQ;split at nQ
  . rename_i s;split at nQ
    . rename_i hq;cases nQ;obtain⟨u,rfl,hu⟩:=args1 hargs;have:=Aw hu;subst this;simp at hq;refine(Go.Proofs.Any.strings_Fields_core L hi9 s X.w (by omega) (λj b hj=>?_) (hT X.w n9.gk)).mono ?_;.have:=List.all_eq_true.1 hq.1 b (List.mem_of_getElem? hj);simpa using this
      . rintro e w'⟨rfl,rfl⟩;have h1:((Lib.fields s.data.toList).map λl=>Value.string ⟨l.toArray⟩)=((Lib.fields s.data.toList).map λl=>(⟨l.toArray⟩:ByteArray)).map Value.string:=by rw[List.map_map];rfl
        rw[h1];refine⟨_,rfl,(Below.refl _ _).alloc (Nat.le_refl _) _,?_⟩;exact N3 (by rw[List.map_map];exact(List.map_congr_left λx _=>by simp).trans (List.map_id _)) (by simp)
    .cases nQ
  .cases nQ
def LQ:List AV->Option AV
 |[.d (.sc (.string s)),.d (.sc (.string p))]=>match Nat.blt s.data.toList.length 1000000&&Nat.blt 0 p.data.toList.length with|true=>some (.d (.sl ((Lib.splitK p.data.toList 0 (Lib.count s.data.toList p.data.toList) s.data.toList).map λx=>[.sc (.string ⟨x.toArray⟩)])))|false=>none
 |_=>none
theorem S4{P:Program}{ρ:Ren}(L:Go.Proofs.Lays.n146 P ρ)(hfn:∃fn,P.funcs[ρ.f 146]?=some fn/\fn.body.isSome=true/\(fn.name== "runtime.NumGoroutine")=false)(hi9:(P.info? (ρ.t 9)).map (λi=>(i.zero,i.size,i.bytes))=some (some (.string ByteArray.empty),1,16))(hm:∀w,Ng w->∃m,w.cell? ⟨ρ.g 1,0,none⟩=some (.int .i64 m)):cI P (rC (ρ.f 146) LQ):=by
  refine Av hfn λargs v nQ X bK n9 hargs=>?_;unfold LQ at nQ;split at nQ
  . rename_i s p;split at nQ
    . rename_i hq;cases nQ;obtain⟨u,u2,rfl,hu,hu2⟩:=args2 hargs;have:=Aw hu;subst this;have:=Aw hu2;subst this;rw[Bool.and_eq_true]at hq;have hsz:s.size<1000000:=by simp_all
      have hp:1<=p.size:=by rw[Jw];have:=hq.2;rw[Nat.blt_eq]at this;omega
      obtain⟨m,hm⟩:=hm X.w n9.gk;refine(Go.Proofs.Any.strings_Split L hi9 s p m X.w (by omega) hm hp).mono ?_;rintro e w'⟨rfl,rfl⟩;refine⟨_,rfl,(Below.refl _ _).alloc (Nat.le_refl _) _,?_⟩;exact N3 (by rw[Lib.splitB_data]) (by rw[Lib.splitB_all p hp 0 _ s rfl])
    grind
  grind
def BY(s:List UInt8):Option (Int×Bool):=match Nat.ble s.length 18with
 |true=>match Lib.atoi s with|some n=>some (n,false)|none=>some (0,true)
 |false=>match Nat.ble s.length 1000000with
  |true=>match Lib.atoiAll s with|.ok n=>some (n,false)|_=>none
  |false=>none
def acN:Bool->D|true=>.er|false=>.sc .nilIface
def PR:List AV->Option AV|[.d (.sc (.string s))]=>(BY s.data.toList).map λr=>.iF [.d (.sc (.int .i64 r.1)),.d (acN r.2)]|_=>none
def ES(n:Nat):List UInt8:=match Nat.blt n 10with|true=>[UInt8.ofNat (48+n)]|false=>[UInt8.ofNat (48+n/10),UInt8.ofNat (48+n%10)]
theorem GK{n:Nat}(h:n<100):Lib.decDigits n=ES n:=by
 unfold ES
 cases hb:Nat.blt n 10with|true=>
  have:n<10:=by simp_all
  rw[Lib.decDigits,dif_pos this]|false=>
  have h1:¬n<10:=by intro q;rw[(by rw[Nat.blt_eq];exact q:Nat.blt n 10=true)]at hb;cases hb
  rw[Lib.decDigits,dif_neg h1,Lib.decDigits,dif_pos (by omega)];rfl
def uh:Int->Option (List UInt8)
 |.ofNat k=>match Nat.blt k 100with|true=>some (ES k)|false=>match Nat.ble k 9223372036854775807with|true=>some (Lib.itoa (.ofNat k))|false=>none
 |.negSucc k=>match Nat.blt k 99with|true=>some (45::ES (k+1))|false=>match Nat.ble k 9223372036854775807with|true=>some (Lib.itoa (.negSucc k))|false=>none
theorem S5{n:Int}{l:List UInt8}(h:uh n=some l):(-9223372036854775808<=n/\n<=9223372036854775807)/\Lib.itoa n=l:=by
  unfold uh at h;split at h
  . rename_i k;split at h
    . have hk:k<100:=by simp_all
      injection h with h;exact⟨by simp only[Int.ofNat_eq_natCast];omega,by rw[<-h];exact GK hk⟩
    . split at h
      . have hk:k<=9223372036854775807:=by simp_all
        injection h with h;exact⟨by simp only[Int.ofNat_eq_natCast];omega,h⟩
      .cases h
  . rename_i k;split at h
    . have hk:k<99:=by simp_all
      injection h with h;refine⟨by omega,?_⟩;unfold Lib.itoa;rw[if_pos (by omega),show(Int.negSucc k).natAbs=k+1from rfl,GK (by omega),h]
    . split at h
      . have hk:k<=9223372036854775807:=by simp_all
        injection h with h;exact⟨by omega,h⟩
      .cases h
def PT:List AV->Option AV|[.d (.sc (.int .i64 n))]=>(uh n).map λl=>.d (.sc (.string ⟨l.toArray⟩))|_=>none
theorem Xd{P:Program}{ρ:Ren}(L:Go.Proofs.LaysM.n171 P ρ)(hfn:∃fn,P.funcs[ρ.f 171]?=some fn/\fn.body.isSome=true/\(fn.name== "runtime.NumGoroutine")=false)(hv:∀w,Ng w->Lib.TabIs P w "internal/strconv.uint64pow10" .u64 Lib.pow10Tab):cI P (rC (ρ.f 171) PT):=by
  refine Av hfn λargs v nQ X bK n9 hargs=>?_;unfold PT at nQ;split at nQ
  . rename_i n;obtain⟨u,rfl,hu⟩:=args1 hargs;have:=Xc hu;subst this;obtain⟨l,hl,nQ⟩:=Option.map_eq_some_iff.1 nQ;subst nQ;obtain⟨⟨h0,h1⟩,hl⟩:=S5 hl;refine(Go.Proofs.Any.strconv_Itoa L n h0 h1 X.w (hv X.w n9.gk)).mono ?_;rintro e w'⟨rfl,k,os,rfl⟩;rw[hl];refine⟨_,rfl,⟨rfl,rfl,rfl,?_,λb hb=>?_⟩,.fy (DR.sc _ rfl)⟩;.simp_all
    .show(X.w.heap++os)[b]?=_;grind
  grind
end
end Go.bI
namespace Go.bI
open Go Go.Shelf Go.RowKit
set_option linter.unusedVariables false
noncomputable section
theorem Xe{P:Program}{ρ:Ren}(L:Go.Proofs.Lays.n172 P ρ)(L2:Go.Proofs.LaysC.n172 P ρ)(hfn:∃fn,P.funcs[ρ.f 172]?=some fn/\fn.body.isSome=true/\(fn.name== "runtime.NumGoroutine")=false)(hv:∀w,Ng w->∃te pe,w.cell? ⟨ρ.g 15,0,none⟩=some (.iface te pe)):cI P (rC (ρ.f 172) PR):=by
  refine Av hfn λargs v nQ X bK n9 hargs=>?_;unfold PR at nQ;split at nQ
  . rename_i s;obtain⟨r,hr,nQ⟩:=Option.map_eq_some_iff.1 nQ;subst nQ;obtain⟨u,rfl,hu⟩:=args1 hargs;have:=Aw hu;subst this;unfold BY at hr;split at hr
    . have hsz:s.size<=18:=by simp_all
      split at hr;.rename_i n hn;cases hr;refine(Go.Proofs.Any.strconv_Atoi L s n hsz hn X.w).mono ?_;rintro e w'⟨rfl,t,rfl⟩;exact⟨_,rfl,Lib.bytesWorld_below _ _ _,_,rfl,.fy (DR.sc _ rfl),.fy (DR.sc _ rfl),trivial⟩
      .rename_i hn;cases hr;obtain⟨te,pe,hev⟩:=hv X.w n9.gk;refine(Go.Proofs.Any.strconv_Atoi_err L2 s hsz hn _ X.w hev (.inr ⟨te,pe,rfl⟩)).mono ?_;rintro e w'⟨N,rfl,_,_,hb⟩;exact⟨_,rfl,hb,_,rfl,.fy (DR.sc _ rfl),.fy (DR.er _ ⟨_,_,rfl⟩),trivial⟩
    . split at hr
      . have hsz:s.size<=1000000:=by rw[Jw];simp_all
        split at hr
        . rename_i n hn;cases hr;refine(Go.Proofs.Any.strconv_Atoi_ok L2 s (by omega) n hn X.w).mono ?_;rintro e w'⟨rfl,rfl|⟨t,rfl⟩⟩;.exact⟨_,rfl,Below.refl _ _,_,rfl,.fy (DR.sc _ rfl),.fy (DR.sc _ rfl),trivial⟩
          .exact⟨_,rfl,Lib.bytesWorld_below _ _ _,_,rfl,.fy (DR.sc _ rfl),.fy (DR.sc _ rfl),trivial⟩
        .cases hr
      .cases hr
  grind
end
end Go.bI
namespace Go.Sym
open Go Go.bI
noncomputable section
theorem tO{T:Tb}{f:Nat}{c:Callee}(hf:T.fs f=none)(hb:Dl c.args=none)(Ar:c.rk=0)(h:∀a y,c.F a=some y->∃vs,cS c.args (unpack c.ta a)=some (vs,[])/\∀xs,aC (RV ρ0 0 []) vs xs->∃rv,T.O f xs [.lf] .lf 0=some (rv,[.lf],.lf,0)/\∀ws w,ic c.res (unpack c.tr y)=some (ws,[])->mY ws=some w->∀lv sl aO,∃a',gu [.lf] 0 0 lv sl aO rv=some (a',[])/\∀ρ B m,RV ρ B m w a'):kr T f c:=by refine⟨λ_ a y hy=>?_,λ_ _ hb'=>by rw[hb]at hb';cases hb'⟩;obtain⟨vs,h1,h2⟩:=h a y hy;refine⟨vs,h1,λxs has=>?_⟩;obtain⟨rv,h3,h4⟩:=h2 xs has;refine⟨1,rv,[.lf],.lf,0,λn hn=>?_,λws rJ=>⟨λ_ w hw lv sl aO=>h4 ws w rJ hw lv sl aO,λ_ _ _ _ _ _ _ _ h0=>absurd Ar h0⟩⟩;match n,hn with|n+1,_=>simp[iE,hf,h3]
def pV:Callee:=⟨[.c .str],[.str],[(false,[.sl .str .d])],[.sl .str],0,λs=>match small s&&Nat.blt s.length 1000000with|true=>some (Lib.fields s)|false=>none⟩
theorem Jx{xs:List AV}{s:List UInt8}(h:aC (RV ρ0 0 []) [.c (.str s)] xs):xs=[.d (.sc (.string ⟨s.toArray⟩))]:=by match xs,h with|[a],h=>rw[show a=_ from h.1]
theorem GL{T:Tb}{f:Nat}(hf:T.fs f=none)(h:∀xs v,LP xs=some v->T.O f xs [.lf] .lf 0=some (v,[.lf],.lf,0)):kr T f pV:=by
  refine tO hf rfl rfl λs y hy=>⟨[.c (.str s)],rfl,λxs has=>?_⟩;have:=Jx has;subst this;have hy:(match small s&&Nat.blt s.length 1000000with|true=>some (Lib.fields s)|false=>none)=some y:=hy;split at hy
  . rename_i hq;refine⟨.d (.sl ((Lib.fields s).map λx=>[.sc (.string ⟨x.toArray⟩)])),h _ _ (by simp only[LP,hq]),λws w rJ hw lv sl aO=>?_⟩;have:ws=[(false,[.sl .str (Lib.fields s) .d])]:=by have:ic pV.res (unpack pV.tr (Lib.fields s))=some ([(false,[.sl .str (Lib.fields s) .d])],[]):=rfl<;>grind
    subst this;have:w=.c (.sl .str (Lib.fields s) .d):=by cases hw;grind
    subst this;exact⟨_,rfl,λρ B m=>.inl rfl⟩
  grind
def sM:Callee:=⟨[.c .str,.c .str],[.str,.str],[(false,[.sl .str .d])],[.sl .str],0,λx=>match Nat.blt x.1.length 1000000&&Nat.blt 0 x.2.length with|true=>some (Lib.splitK x.2 0 (Lib.count x.1 x.2) x.1)|false=>none⟩
theorem Jy{T:Tb}{f:Nat}(hf:T.fs f=none)(h:∀xs v,LQ xs=some v->T.O f xs [.lf] .lf 0=some (v,[.lf],.lf,0)):kr T f sM:=by
  refine tO hf rfl rfl λs y hy=>⟨[.c (.str s.1),.c (.str s.2)],rfl,λxs has=>?_⟩;obtain⟨s,q⟩:=s;have:xs=[.d (.sc (.string ⟨s.toArray⟩)),.d (.sc (.string ⟨q.toArray⟩))]:=by match xs,has with|[a,b],h=>rw[show a=_ from h.1,show b=_ from h.2.1]
  subst this;have hy:(match Nat.blt s.length 1000000&&Nat.blt 0 q.length with|true=>some (Lib.splitK q 0 (Lib.count s q) s)|false=>none)=some y:=hy;split at hy
  . rename_i hq;refine⟨.d (.sl ((Lib.splitK q 0 (Lib.count s q) s).map λx=>[.sc (.string ⟨x.toArray⟩)])),h _ _ (by simp only[LQ,hq]),λws w rJ hw lv sl aO=>?_⟩;generalize Lib.splitK q 0 (Lib.count s q) s=y at*;have:ws=[(false,[.sl .str y .d])]:=by have:ic sM.res (unpack sM.tr y)=some ([(false,[.sl .str y .d])],[]):=rfl<;>grind
    subst this;have:w=.c (.sl .str y .d):=by cases hw;grind
    subst this;exact⟨_,rfl,λρ B m=>.inl rfl⟩
  grind
def wC:Callee:=⟨[.c .str],[.str],[(false,[.int .i64]),(false,[.er])],[.int .i64,.bool],0,BY⟩
theorem LR{T:Tb}{f:Nat}(hf:T.fs f=none)(h:∀xs v,PR xs=some v->T.O f xs [.lf] .lf 0=some (v,[.lf],.lf,0)):kr T f wC:=by
 refine tO hf rfl rfl λs y hy=>⟨[.c (.str s)],rfl,λxs has=>?_⟩;have:=Jx has;subst this;have hy:BY s=some y:=hy;refine⟨_,h _ (.iF [.d (.sc (.int .i64 y.1)),.d (acN y.2)]) (show(BY s).map (λr:Int×Bool=>AV.iF [.d (.sc (.int .i64 r.1)),.d (acN r.2)])=some _ by rw[hy];rfl),λws w rJ hw lv sl aO=>?_⟩;obtain⟨n,b⟩:=y;have:ws=[(false,[.int .i64 n]),(false,[.er b])]:=by have:ic wC.res (unpack wC.tr (n,b))=some ([(false,[.int .i64 n]),(false,[.er b])],[]):=rfl<;>grind
 subst this;have:w=.iF [(false,[.int .i64 n]),(false,[.er b])]:=by cases hw;grind
 subst this;cases b<;>exact⟨_,rfl,λρ B m=>⟨_,rfl,⟨_,rfl,rfl⟩,⟨_,rfl,rfl⟩,trivial⟩⟩
def qD:Callee:=⟨[.c (.int .i64)],[.int .i64],[(false,[.str])],[.str],0,uh⟩
theorem LS{T:Tb}{f:Nat}(hf:T.fs f=none)(h:∀xs v,PT xs=some v->T.O f xs [.lf] .lf 0=some (v,[.lf],.lf,0)):kr T f qD:=by
 refine tO hf rfl rfl λn y hy=>⟨[.c (.int .i64 n)],rfl,λxs hxs=>?_⟩;have:xs=[.d (.sc (.int .i64 n))]:=by match xs,hxs with|[a],h=>rw[show a=_ from h.1]
 subst this;have fin:∀ws w,ic qD.res (unpack qD.tr y)=some (ws,[])->mY ws=some w->∀lv sl aO,∃a',gu [.lf] 0 0 lv sl aO (.d (.sc (.string ⟨y.toArray⟩)))=some (a',[])/\∀ρ B m,RV ρ B m w a':=by
  intro ws w rJ hw lv sl aO;have:ws=[(false,[.str y])]:=by have:ic qD.res (unpack qD.tr y)=some ([(false,[.str y])],[]):=rfl<;>grind
  subst this;have:w=.c (.str y):=by cases hw;grind
  subst this;exact⟨_,rfl,λρ B m=>rfl⟩
 have hy:uh n=some y:=hy;exact⟨_,h _ _ (show(uh n).map (λl=>AV.d (.sc (.string ⟨l.toArray⟩)))=some _ by rw[hy];rfl),fin⟩
def S6(sz:Nat):tV:=⟨1,9,[.t 2],(.seq (.region [⟨(some 2),.HQ (.c (.own [] .full)),none,0,0⟩] false) (.seq (.region [⟨(some 3),.HQ (.t 0),none,0,0⟩,⟨(some 4),.HQ (.t 0),none,0,0⟩,⟨(some 5),.len (.t 4),none,0,0⟩,⟨(some 6),.HQ (.t 0),none,0,0⟩,⟨(some 7),.len (.t 6),none,0,0⟩,⟨(some 8),.slice sz (.t 3) none (some (.t 5)) (some (.t 7)),none,0,0⟩,⟨(some 2),.HQ (.t 8),none,0,0⟩] false) .ret)),false⟩
def acO(a:AV)(n:Nat):St:={slots:=vj (vj (vj (vj (vj (vj (dU 0 [a] .lf) (some 2) (.own [] .full)) (some 3) a) (some 4) a) (some 5) (o9 n)) (some 6) a) (some 7) (o9 n),mem:=[.lf],aG:=.lf,nv:=8}
def ahe(a:AV)(n:Nat)(call:bI.Call)(sh:Nat->Bool)(o:Option AV):Option (AV×List (Tr bC)×Tr Unit×Nat):=match(match Option.map (λs'=>(AX.normal,s')) (match o.bind fH.pure with|none=>none|some e=>kW call sh 1 6 [⟨(some 2),.HQ (.t 8),none,0,0⟩] ((acO a n).app (some 8) e))with|some (.normal,s')=>exec call sh 47 .ret s'|r=>r)with|some (.normal,s)|some (.ret,s)=>(kX s [.t 2]).map λvs=>(jr vs,s.mem,s.aG,s.nv)|_=>none
theorem xP{T:Tb}{f:Nat}{fn:tV}(hf:T.fs f=some fn)(n:Nat)(args:List AV)(mem:List (Tr bC))(aG:Tr Unit)(nv:Nat):iE T (n+1) f args mem aG nv=(match Nat.beq args.length fn.np with|false=>none|true=>match exec (iE T n) (λg=>((T.fs g).map (·.sh)).getD false) n fn.body {slots:=dU 0 args .lf,mem,aG,nv}with|some (.normal,s)|some (.ret,s)=>(kX s fn.res).map λvs=>(jr vs,s.mem,s.aG,s.nv)|_=>none):=by simp[iE,hf];rfl
theorem S7{T:Tb}{f sz:Nat}(hf:T.fs f=some (S6 sz))(els:List (List D))(a:AV)(hs:els.all (λe=>e.length==sz)=true)(h:a=.d (.sl els)\/∃o,o≠.bA/\a=.own els o):∃cm ts nv,iE T 50 f [a] [.lf] .lf 0=some (.own els .full,cm,ts,nv):=by
 have go:∀a:AV,iE T 50 f [a] [.lf] .lf 0=ahe a els.length (iE T 49) (λg=>((T.fs g).map (·.sh)).getD false) (eU sz a 0 (some els.length) (some els.length))->eU sz a 0 (some els.length) (some els.length)=some (.own els .full)->∃cm ts nv,iE T 50 f [a] [.lf] .lf 0=some (.own els .full,cm,ts,nv):=by intro a h1 h2;rw[h2]at h1;exact⟨_,_,_,h1⟩
 rcases h with rfl|⟨o,ho,rfl⟩;.refine go _ ?_ (by simp[eU,hs]);rw[show(50:Nat)=49+1from rfl,xP hf];kernel_rfl
 .cases o with|bA=>exact absurd rfl ho|full=>refine go _ ?_ (by simp[eU,hs]);rw[show(50:Nat)=49+1from rfl,xP hf];kernel_rfl|cB=>refine go _ ?_ (by simp[eU,hs]);rw[show(50:Nat)=49+1from rfl,xP hf];kernel_rfl
def Ax(t:Ty):Callee:=⟨[.c (.sl t .d)],[.sl t],[(false,[.sl t .full])],[.sl t],65535,λl=>some l⟩
theorem LU{T:Tb}{f:Nat}{t:Ty}(hf:T.fs f=some (S6 t.size)):kr T f (Ax t):=by refine⟨λ_ l y hy=>⟨[.c (.sl t l .d)],rfl,λxs has=>?_⟩,λ_ _ hb=>by cases hb⟩;cases hy;match xs,has with
 |[a],ha=>
  obtain⟨cm,ts,nv,hr⟩:=S7 hf (bf t l) a (gx t l) ha.1;refine⟨50,_,cm,ts,nv,λm hm=>NK 50 m hm _ _ _ _ _ _ hr,λws rJ=>⟨λh=>absurd rfl h,λrow lv sl ai p Da us w _ EL _ hp _ hw=>?_⟩⟩;have:ws=[(false,[.sl t l .full])]:=by have:ic (Ax t).res (unpack (Ax t).tr l)=some ([(false,[.sl t l .full])],[]):=rfl<;>grind
  subst this;cases hp;have hw:w=.c (.sl t l .full):=by cases hw;grind
  subst hw;have EL:row%65536=65535:=EL;refine⟨.own (bf t l) .full,?_,λ_ _ _ _=>rfl⟩;simp only[gu,kV,bu,EL,Bool.and_false,show Nat.beq 1 65535=false from rfl,show Nat.beq 65535 65535=true from rfl,Bool.or_true];rfl
end
end Go.Sym
