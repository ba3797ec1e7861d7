/- A part of the proof: EngLb, EngLbA, SymLb. -/
import Derived.Test.YtgkllgjmfpjeoaaGreatDoorSymB
import Derived.Lib.AtoiAll
import Derived.Shelf.Strings.Fields
import Derived.Shelf.Strings.Split
import Derived.Shelf.Strconv.Itoa3
import Derived.Lib.Atoi
import Derived.Shelf.Strconv.Atoi
import Derived.Shelf.Strconv.AtoiErr
import Derived.Shelf.Strconv.AtoiAll
import Derived.Test.YtgkllgjmfpjeoaaGreatDoorSymK
import Derived.KernelRfl
set_option linter.unusedSimpArgs false
namespace Go.bJ
open Go Go.Shelf Go.RowKit
set_option linter.unusedVariables false
noncomputable section
def Ee(mem:List (Tr bB))(aI:Tr Unit)(nv:Nat):Bool:=match mem,aI,nv with|[.lf],.lf,0=>true|_,_,_=>false
theorem RL{Y:Cx}(hF:∀b o,Y.F b o->b<Y.w.heap.size)(hl:ZE Y):aH Y [.lf] .lf:=by
  refine⟨λlv sl e he=>?_,λv hv=>by simp at hv,λk k' v v' L L' a _ _ _ _ _=>?_,hF,hl⟩;.unfold aK at he;grind[Tr.get?,ny,bB.ah]
  . rcases a with⟨lv,_,_,_,he,_⟩|⟨_,he⟩;.unfold aK at he;grind[bB.fz,bB.ah,Tr.get?,cq,Holds]
    simp_all
def lR(a b:Go.bJ.Call):Go.bJ.Call:=λf args mem aI nv=>match a f args mem aI nv with|some r=>some r|none=>b f args mem aI nv
theorem F0{P:Program}{a b:Go.bJ.Call}(ha:cM P a)(hb:cM P b):cM P (lR a b):=by
 intro f args mem aI nv r mem' qP Mj h;unfold lR at h;split at h;.rename_i he;cases h;exact ha f args mem aI nv _ mem' qP Mj he
 .exact hb f args mem aI nv r mem' qP Mj h
def qW(f:Nat)(ans:List AV->Option AV):Go.bJ.Call:=λg args mem aI nv=>match Ee mem aI nv&&Nat.beq g f with|true=>(ans args).map λv=>(v,[.lf],.lf,0)|false=>none
def Cx.behind(X:Cx)(w':World):Cx:={w:=w',F:=λb o=>X.F b o\/(X.w.heap.size<=b/\b<w'.heap.size),ρ:=X.ρ,old:=X.old}
theorem IC{X:Cx}(hl:∀b,X.old b->b<X.w.heap.size){w':World}(h:Below X.w.heap.size X.w w'):eo X.old X.w w':=⟨h.os,h.tape,h.output,h.size,λb hb=>h.block b (hl b hb)⟩
theorem zQ{P:Program}{f:Nat}{ans:List AV->Option AV}(hfn:∃fn,P.funcs[f]?=some fn/\fn.body.isSome=true/\(fn.name== "runtime.NumGoroutine")=false)(h:∀args v,ans args=some v->∀(X:Cx)(ck:Array Value),ZE X->aC (V1 X) args ck.toList->Calls P f ck X.w λe w'=>∃u,e=.returned u/\Below X.w.heap.size X.w w'/\VR (X.behind w') v u):cM P (qW f ans):=by
  intro g args mem aI nv r mem' qP Mj hr X ck hmem hdom hargs;unfold qW at hr;split at hr
  . rename_i hq;rw[Bool.and_eq_true]at hq;have hg:=Nat.eq_of_beq_eq_true hq.2;subst hg;obtain⟨v,hv,he⟩:=aN hr;simp at he;obtain⟨rfl,rfl,rfl,rfl⟩:=he;have hn:nv=0:=by grind[Ee,Cx.behind,VR,V1,aC]
    subst hn;refine⟨hfn,(h args v hv X ck hmem.tG hargs).mono ?_⟩;rintro e w'⟨u,rfl,hb,hvr⟩;have hst:=IC hmem.low hb;refine⟨X.behind w',u,rfl,rfl,⟨rfl,hst,λb o hb=>.inl hb,λb o hF=>hb.cell (hmem.oL b o hF),λ_ _ h=>h,λb o hF=>?_⟩,hvr,RL (λb o hF=>?_) ⟨λb ho=>Nat.lt_of_lt_of_le (hmem.low b ho) hb.size,hmem.tG.gb,Db (λb hg=>hb.block b (hmem.low b (hmem.tG.gb b hg))) hmem.tG.gk⟩,Nat.le_refl _,λu L h=>.inl h⟩
    . rcases hF with hF|hF;.exact .inl hF
      .exact .inr λho=>absurd (hmem.low b ho) (by omega)
    . rcases hF with hF|hF;.exact Nat.lt_of_lt_of_le (hmem.oL b o hF) hb.size
      .exact hF.2
  grind
theorem MS{X:Cx}{t:TypeId}{l:List ByteArray}{ls:List (List UInt8)}(hls:l.map (·.data.toList)=ls){n:Nat}(hn:n=l.length):VR (X.behind (X.w.alloc (.cells (l.map Value.string).toArray t))) (.d (.sl (ls.map λx=>[.sc (.string ⟨x.toArray⟩)]))) (.slice (some ⟨X.w.heap.size,0,none⟩) n n):=by
 subst hn;have hlen:(ls.map λx=>([.sc (.string ⟨x.toArray⟩)]:List D)).length=l.length:=by grind
 refine .fI (show DR _ _ _ _ from DR.gE (b:=X.w.heap.size) (o:=0) (sz:=1) ⟨?_,λi e j x h1 h2=>?_⟩ hlen (Nat.le_refl _) λ_=>rfl);.grind
 .rw[List.getElem?_map]at h1;cases hi:ls[i]?with|none=>grind|some y=>rw[hi]at h1;cases h1;cases j with|succ j=>grind|zero=>cases h2;subst hls;rw[List.getElem?_map]at hi;cases hb:l[i]?with|none=>grind|some s=>
  rw[hb]at hi;cases hi;refine⟨.inr ⟨Nat.le_refl _,by show _<(X.w.heap.push _).size;rw[Array.size_push];omega⟩,.string s,?_,?_⟩;.simp_all[Cx.behind]
  .exact .sc _ rfl
theorem zR{X:Cx}{s:ByteArray}{v:Value}(h:V1 X (.d (.sc (.string s))) v):v=.string s:=by cases h with|sc _ _=>rfl
theorem Wi{X:Cx}{k:IntKind}{n:Int}{v:Value}(h:V1 X (.d (.sc (.int k n))) v):v=.int k n:=by cases h with|sc _ _=>rfl
theorem args1{X:Cx}{a:AV}{ck:Array Value}(h:aC (V1 X) [a] ck.toList):∃v,ck=#[v]/\V1 X a v:=by match hv:ck.toList,h with|[v],⟨h1,_⟩=>grind
theorem args2{X:Cx}{a b:AV}{ck:Array Value}(h:aC (V1 X) [a,b] ck.toList):∃u v,ck=#[u,v]/\V1 X a u/\V1 X b v:=by match hv:ck.toList,h with|[u,v],⟨h1,h2,_⟩=>grind
def small(l:List UInt8):Bool:=l.all λb=>Nat.blt b.toNat 128
def KM:List AV->Option AV
 |[.d (.sc (.string s))]=>match small s.data.toList&&Nat.blt s.data.toList.length 1000000with|true=>some (.d (.sl ((Lib.fields s.data.toList).map λx=>[.sc (.string ⟨x.toArray⟩)])))|false=>none
 |_=>none
theorem ID(s:ByteArray):s.size=s.data.toList.length:=Lib.size_eq s
theorem OF{P:Program}{ρ:Ren}(L:Go.Proofs.Lays.n157 P ρ)(hfn:∃fn,P.funcs[ρ.f 157]?=some fn/\fn.body.isSome=true/\(fn.name== "runtime.NumGoroutine")=false)(hi9:(P.info? (ρ.t 9)).map (λi=>(i.zero,i.size,i.bytes))=some (some (.string ByteArray.empty),1,16))(hT:∀w,L9 w->∀c:Nat,c<256->w.cell? ⟨ρ.g 0,c,none⟩=some (.int .u8 (if Lib.isSp (UInt8.ofNat c)then 1 else 0))):cM P (qW (ρ.f 157) KM):=by
  refine zQ hfn λargs v nH X ck nT hargs=>?_;unfold KM at nH;split at nH
  . rename_i s;split at nH
    . rename_i hq;cases nH;obtain⟨u,rfl,hu⟩:=args1 hargs;have:=zR hu;subst this;simp at hq;refine(Go.Proofs.Any.strings_Fields_core L hi9 s X.w (by omega) (λj b hj=>?_) (hT X.w nT.gk)).mono ?_;.have:=List.all_eq_true.1 hq.1 b (List.mem_of_getElem? hj);simpa using this
      . rintro e w'⟨rfl,rfl⟩;have h1:((Lib.fields s.data.toList).map λl=>Value.string ⟨l.toArray⟩)=((Lib.fields s.data.toList).map λl=>(⟨l.toArray⟩:ByteArray)).map Value.string:=by rw[List.map_map];rfl
        rw[h1];refine⟨_,rfl,(Below.refl _ _).alloc (Nat.le_refl _) _,?_⟩;exact MS (by rw[List.map_map];exact(List.map_congr_left λx _=>by simp).trans (List.map_id _)) (by simp)
    .cases nH
  .cases nH
def KN:List AV->Option AV
 |[.d (.sc (.string s)),.d (.sc (.string p))]=>match Nat.blt s.data.toList.length 1000000&&Nat.blt 0 p.data.toList.length with|true=>some (.d (.sl ((Lib.splitK p.data.toList 0 (Lib.count s.data.toList p.data.toList) s.data.toList).map λx=>[.sc (.string ⟨x.toArray⟩)])))|false=>none
 |_=>none
theorem RM{P:Program}{ρ:Ren}(L:Go.Proofs.Lays.n146 P ρ)(hfn:∃fn,P.funcs[ρ.f 146]?=some fn/\fn.body.isSome=true/\(fn.name== "runtime.NumGoroutine")=false)(hi9:(P.info? (ρ.t 9)).map (λi=>(i.zero,i.size,i.bytes))=some (some (.string ByteArray.empty),1,16))(hm:∀w,L9 w->∃m,w.cell? ⟨ρ.g 1,0,none⟩=some (.int .i64 m)):cM P (qW (ρ.f 146) KN):=by
  refine zQ hfn λargs v nH X ck nT hargs=>?_;unfold KN at nH;split at nH
  . rename_i s p;split at nH
    . rename_i hq;cases nH;obtain⟨u,u2,rfl,hu,hu2⟩:=args2 hargs;have:=zR hu;subst this;have:=zR hu2;subst this;rw[Bool.and_eq_true]at hq;have hsz:s.size<1000000:=by simp_all
      have hp:1<=p.size:=by rw[ID];have:=hq.2;rw[Nat.blt_eq]at this;omega
      obtain⟨m,hm⟩:=hm X.w nT.gk;refine(Go.Proofs.Any.strings_Split L hi9 s p m X.w (by omega) hm hp).mono ?_;rintro e w'⟨rfl,rfl⟩;refine⟨_,rfl,(Below.refl _ _).alloc (Nat.le_refl _) _,?_⟩;exact MS (by rw[Lib.splitB_data]) (by rw[Lib.splitB_all p hp 0 _ s rfl])
    grind
  grind
def IE(s:List UInt8):Option (Int×Bool):=match Nat.ble s.length 18with
 |true=>match Lib.atoi s with|some n=>some (n,false)|none=>some (0,true)
 |false=>match Nat.ble s.length 1000000with
  |true=>match Lib.atoiAll s with|.ok n=>some (n,false)|_=>none
  |false=>none
def aau:Bool->D|true=>.er|false=>.sc .nilIface
def OG:List AV->Option AV|[.d (.sc (.string s))]=>(IE s.data.toList).map λr=>.iY [.d (.sc (.int .i64 r.1)),.d (aau r.2)]|_=>none
def dig(n:Nat):List UInt8:=match Nat.blt n 10with|true=>[UInt8.ofNat (48+n)]|false=>[UInt8.ofNat (48+n/10),UInt8.ofNat (48+n%10)]
theorem RN{n:Nat}(h:n<100):Lib.decDigits n=dig n:=by
 unfold dig
 cases hb:Nat.blt n 10with|true=>
  have:n<10:=by simp_all
  rw[Lib.decDigits,dif_pos this]|false=>
  have h1:¬n<10:=by intro q;rw[(by rw[Nat.blt_eq];exact q:Nat.blt n 10=true)]at hb;cases hb
  rw[Lib.decDigits,dif_neg h1,Lib.decDigits,dif_pos (by omega)];rfl
def Ef:Int->Option (List UInt8)
 |.ofNat k=>match Nat.blt k 100with|true=>some (dig k)|false=>match Nat.ble k 9223372036854775807with|true=>some (Lib.itoa (.ofNat k))|false=>none
 |.negSucc k=>match Nat.blt k 99with|true=>some (45::dig (k+1))|false=>match Nat.ble k 9223372036854775807with|true=>some (Lib.itoa (.negSucc k))|false=>none
theorem RO{n:Int}{l:List UInt8}(h:Ef n=some l):(-9223372036854775808<=n/\n<=9223372036854775807)/\Lib.itoa n=l:=by
  unfold Ef at h;split at h
  . rename_i k;split at h
    . have hk:k<100:=by simp_all
      injection h with h;exact⟨by simp only[Int.ofNat_eq_natCast];omega,by rw[<-h];exact RN hk⟩
    . split at h
      . have hk:k<=9223372036854775807:=by simp_all
        injection h with h;exact⟨by simp only[Int.ofNat_eq_natCast];omega,h⟩
      .cases h
  . rename_i k;split at h
    . have hk:k<99:=by simp_all
      injection h with h;refine⟨by omega,?_⟩;unfold Lib.itoa;rw[if_pos (by omega),show(Int.negSucc k).natAbs=k+1from rfl,RN (by omega),h]
    . split at h
      . have hk:k<=9223372036854775807:=by simp_all
        injection h with h;exact⟨by omega,h⟩
      .cases h
def OH:List AV->Option AV|[.d (.sc (.int .i64 n))]=>(Ef n).map λl=>.d (.sc (.string ⟨l.toArray⟩))|_=>none
theorem Wj{P:Program}{ρ:Ren}(L:Go.Proofs.LaysM.n171 P ρ)(hfn:∃fn,P.funcs[ρ.f 171]?=some fn/\fn.body.isSome=true/\(fn.name== "runtime.NumGoroutine")=false)(hv:∀w,L9 w->Lib.TabIs P w "internal/strconv.uint64pow10" .u64 Lib.pow10Tab):cM P (qW (ρ.f 171) OH):=by
  refine zQ hfn λargs v nH X ck nT hargs=>?_;unfold OH at nH;split at nH
  . rename_i n;obtain⟨u,rfl,hu⟩:=args1 hargs;have:=Wi hu;subst this;obtain⟨l,hl,nH⟩:=Option.map_eq_some_iff.1 nH;subst nH;obtain⟨⟨h0,h1⟩,hl⟩:=RO hl;refine(Go.Proofs.Any.strconv_Itoa L n h0 h1 X.w (hv X.w nT.gk)).mono ?_;rintro e w'⟨rfl,k,os,rfl⟩;rw[hl];refine⟨_,rfl,⟨rfl,rfl,rfl,?_,λb hb=>?_⟩,.fI (DR.sc _ rfl)⟩;.simp_all
    .show(X.w.heap++os)[b]?=_;grind
  grind
end
end Go.bJ
namespace Go.bJ
open Go Go.Shelf Go.RowKit
set_option linter.unusedVariables false
noncomputable section
theorem Wl{P:Program}{ρ:Ren}(L:Go.Proofs.Lays.n172 P ρ)(L2:Go.Proofs.LaysC.n172 P ρ)(hfn:∃fn,P.funcs[ρ.f 172]?=some fn/\fn.body.isSome=true/\(fn.name== "runtime.NumGoroutine")=false)(hv:∀w,L9 w->∃te pe,w.cell? ⟨ρ.g 15,0,none⟩=some (.iface te pe)):cM P (qW (ρ.f 172) OG):=by
  refine zQ hfn λargs v nH X ck nT hargs=>?_;unfold OG at nH;split at nH
  . rename_i s;obtain⟨r,hr,nH⟩:=Option.map_eq_some_iff.1 nH;subst nH;obtain⟨u,rfl,hu⟩:=args1 hargs;have:=zR hu;subst this;unfold IE at hr;split at hr
    . have hsz:s.size<=18:=by simp_all
      split at hr;.rename_i n hn;cases hr;refine(Go.Proofs.Any.strconv_Atoi L s n hsz hn X.w).mono ?_;rintro e w'⟨rfl,t,rfl⟩;exact⟨_,rfl,Lib.bytesWorld_below _ _ _,_,rfl,.fI (DR.sc _ rfl),.fI (DR.sc _ rfl),trivial⟩
      .rename_i hn;cases hr;obtain⟨te,pe,hev⟩:=hv X.w nT.gk;refine(Go.Proofs.Any.strconv_Atoi_err L2 s hsz hn _ X.w hev (.inr ⟨te,pe,rfl⟩)).mono ?_;rintro e w'⟨N,rfl,_,_,hb⟩;exact⟨_,rfl,hb,_,rfl,.fI (DR.sc _ rfl),.fI (DR.er _ ⟨_,_,rfl⟩),trivial⟩
    . split at hr
      . have hsz:s.size<=1000000:=by rw[ID];simp_all
        split at hr
        . rename_i n hn;cases hr;refine(Go.Proofs.Any.strconv_Atoi_ok L2 s (by omega) n hn X.w).mono ?_;rintro e w'⟨rfl,rfl|⟨t,rfl⟩⟩;.exact⟨_,rfl,Below.refl _ _,_,rfl,.fI (DR.sc _ rfl),.fI (DR.sc _ rfl),trivial⟩
          .exact⟨_,rfl,Lib.bytesWorld_below _ _ _,_,rfl,.fI (DR.sc _ rfl),.fI (DR.sc _ rfl),trivial⟩
        .cases hr
      .cases hr
  grind
end
end Go.bJ
namespace Go.Sym
open Go Go.bJ
noncomputable section
theorem tv{T:Tb}{f:Nat}{c:Callee}(hf:T.fs f=none)(zP:c.rk=0)(h:∀a y,c.F a=some y->∃vs,di c.args (unpack c.ta a)=some (vs,[])/\∀xs,aC (RV ρ0 0 []) vs xs->∃rv,T.O f xs [.lf] .lf 0=some (rv,[.lf],.lf,0)/\∀ws w,jr c.res (unpack c.tr y)=some (ws,[])->nU ws=some w->∀lv sl aO,∃a',gC [.lf] 0 0 lv sl aO rv=some (a',[])/\∀ρ B m,RV ρ B m w a'):kj T f c:=by intro a y hy;obtain⟨vs,h1,h2⟩:=h a y hy;refine⟨vs,h1,λxs has=>?_⟩;obtain⟨rv,h3,h4⟩:=h2 xs has;refine⟨1,rv,[.lf],.lf,0,λn hn=>?_,λws xl=>⟨λ_ w hw lv sl aO=>h4 ws w xl hw lv sl aO,λ_ _ _ _ _ _ _ _ h0=>absurd zP h0⟩⟩;match n,hn with|n+1,_=>simp[jj,hf,h3]
def pN:Callee:=⟨[.c .str],[.str],[(false,[.sl .str .d])],[.sl .str],0,λs=>match small s&&Nat.blt s.length 1000000with|true=>some (Lib.fields s)|false=>none⟩
theorem IF{xs:List AV}{s:List UInt8}(h:aC (RV ρ0 0 []) [.c (.str s)] xs):xs=[.d (.sc (.string ⟨s.toArray⟩))]:=by match xs,h with|[a],h=>rw[show a=_ from h.1]
theorem F1{T:Tb}{f:Nat}(hf:T.fs f=none)(h:∀xs v,KM xs=some v->T.O f xs [.lf] .lf 0=some (v,[.lf],.lf,0)):kj T f pN:=by
  refine tv hf rfl λs y hy=>⟨[.c (.str s)],rfl,λxs has=>?_⟩;have:=IF has;subst this;have hy:(match small s&&Nat.blt s.length 1000000with|true=>some (Lib.fields s)|false=>none)=some y:=hy;split at hy
  . rename_i hq;refine⟨.d (.sl ((Lib.fields s).map λx=>[.sc (.string ⟨x.toArray⟩)])),h _ _ (by simp only[KM,hq]),λws w xl hw lv sl aO=>?_⟩;have:ws=[(false,[.sl .str (Lib.fields s) .d])]:=by have:jr pN.res (unpack pN.tr (Lib.fields s))=some ([(false,[.sl .str (Lib.fields s) .d])],[]):=rfl<;>grind
    subst this;have:w=.c (.sl .str (Lib.fields s) .d):=by cases hw;grind
    subst this;exact⟨_,rfl,λρ B m=>.inl rfl⟩
  grind
def r9:Callee:=⟨[.c .str,.c .str],[.str,.str],[(false,[.sl .str .d])],[.sl .str],0,λx=>match Nat.blt x.1.length 1000000&&Nat.blt 0 x.2.length with|true=>some (Lib.splitK x.2 0 (Lib.count x.1 x.2) x.1)|false=>none⟩
theorem IG{T:Tb}{f:Nat}(hf:T.fs f=none)(h:∀xs v,KN xs=some v->T.O f xs [.lf] .lf 0=some (v,[.lf],.lf,0)):kj T f r9:=by
  refine tv hf rfl λs y hy=>⟨[.c (.str s.1),.c (.str s.2)],rfl,λxs has=>?_⟩;obtain⟨s,q⟩:=s;have:xs=[.d (.sc (.string ⟨s.toArray⟩)),.d (.sc (.string ⟨q.toArray⟩))]:=by match xs,has with|[a,b],h=>rw[show a=_ from h.1,show b=_ from h.2.1]
  subst this;have hy:(match Nat.blt s.length 1000000&&Nat.blt 0 q.length with|true=>some (Lib.splitK q 0 (Lib.count s q) s)|false=>none)=some y:=hy;split at hy
  . rename_i hq;refine⟨.d (.sl ((Lib.splitK q 0 (Lib.count s q) s).map λx=>[.sc (.string ⟨x.toArray⟩)])),h _ _ (by simp only[KN,hq]),λws w xl hw lv sl aO=>?_⟩;generalize Lib.splitK q 0 (Lib.count s q) s=y at*;have:ws=[(false,[.sl .str y .d])]:=by have:jr r9.res (unpack r9.tr y)=some ([(false,[.sl .str y .d])],[]):=rfl<;>grind
    subst this;have:w=.c (.sl .str y .d):=by cases hw;grind
    subst this;exact⟨_,rfl,λρ B m=>.inl rfl⟩
  grind
def vS:Callee:=⟨[.c .str],[.str],[(false,[.int .i64]),(false,[.er])],[.int .i64,.bool],0,IE⟩
theorem KO{T:Tb}{f:Nat}(hf:T.fs f=none)(h:∀xs v,OG xs=some v->T.O f xs [.lf] .lf 0=some (v,[.lf],.lf,0)):kj T f vS:=by
 refine tv hf rfl λs y hy=>⟨[.c (.str s)],rfl,λxs has=>?_⟩;have:=IF has;subst this;have hy:IE s=some y:=hy;refine⟨_,h _ (.iY [.d (.sc (.int .i64 y.1)),.d (aau y.2)]) (show(IE s).map (λr:Int×Bool=>AV.iY [.d (.sc (.int .i64 r.1)),.d (aau r.2)])=some _ by rw[hy];rfl),λws w xl hw lv sl aO=>?_⟩;obtain⟨n,b⟩:=y;have:ws=[(false,[.int .i64 n]),(false,[.er b])]:=by have:jr vS.res (unpack vS.tr (n,b))=some ([(false,[.int .i64 n]),(false,[.er b])],[]):=rfl<;>grind
 subst this;have:w=.iY [(false,[.int .i64 n]),(false,[.er b])]:=by cases hw;grind
 subst this;cases b<;>exact⟨_,rfl,λρ B m=>⟨_,rfl,⟨_,rfl,rfl⟩,⟨_,rfl,rfl⟩,trivial⟩⟩
def qn:Callee:=⟨[.c (.int .i64)],[.int .i64],[(false,[.str])],[.str],0,Ef⟩
theorem KP{T:Tb}{f:Nat}(hf:T.fs f=none)(h:∀xs v,OH xs=some v->T.O f xs [.lf] .lf 0=some (v,[.lf],.lf,0)):kj T f qn:=by
 refine tv hf rfl λn y hy=>⟨[.c (.int .i64 n)],rfl,λxs hxs=>?_⟩;have:xs=[.d (.sc (.int .i64 n))]:=by match xs,hxs with|[a],h=>rw[show a=_ from h.1]
 subst this;have fin:∀ws w,jr qn.res (unpack qn.tr y)=some (ws,[])->nU ws=some w->∀lv sl aO,∃a',gC [.lf] 0 0 lv sl aO (.d (.sc (.string ⟨y.toArray⟩)))=some (a',[])/\∀ρ B m,RV ρ B m w a':=by
  intro ws w xl hw lv sl aO;have:ws=[(false,[.str y])]:=by have:jr qn.res (unpack qn.tr y)=some ([(false,[.str y])],[]):=rfl<;>grind
  subst this;have:w=.c (.str y):=by cases hw;grind
  subst this;exact⟨_,rfl,λρ B m=>rfl⟩
 have hy:Ef n=some y:=hy;exact⟨_,h _ _ (show(Ef n).map (λl=>AV.d (.sc (.string ⟨l.toArray⟩)))=some _ by rw[hy];rfl),fin⟩
def RP(sz:Nat):tF:=⟨1,9,[.t 2],(.seq (.region [⟨(some 2),.GM (.c (.own [] .full)),none,0,0⟩] false) (.seq (.region [⟨(some 3),.GM (.t 0),none,0,0⟩,⟨(some 4),.GM (.t 0),none,0,0⟩,⟨(some 5),.len (.t 4),none,0,0⟩,⟨(some 6),.GM (.t 0),none,0,0⟩,⟨(some 7),.len (.t 6),none,0,0⟩,⟨(some 8),.slice sz (.t 3) none (some (.t 5)) (some (.t 7)),none,0,0⟩,⟨(some 2),.GM (.t 8),none,0,0⟩] false) .ret)),false⟩
def aav(a:AV)(n:Nat):St:={slots:=uU (uU (uU (uU (uU (uU (eg 0 [a] .lf) (some 2) (.own [] .full)) (some 3) a) (some 4) a) (some 5) (oW n)) (some 6) a) (some 7) (oW n),mem:=[.lf],aI:=.lf,nv:=8}
def ad4(a:AV)(n:Nat)(call:bJ.Call)(sh:Nat->Bool)(o:Option AV):Option (AV×List (Tr bB)×Tr Unit×Nat):=match(match Option.map (λs'=>(AX.normal,s')) (match o.bind fH.pure with|none=>none|some e=>kS call sh 1 6 [⟨(some 2),.GM (.t 8),none,0,0⟩] ((aav a n).app (some 8) e))with|some (.normal,s')=>exec call sh 47 .ret s'|r=>r)with|some (.normal,s)|some (.ret,s)=>(kT s [.t 2]).map λvs=>(ju vs,s.mem,s.aI,s.nv)|_=>none
theorem xw{T:Tb}{f:Nat}{fn:tF}(hf:T.fs f=some fn)(n:Nat)(args:List AV)(mem:List (Tr bB))(aI:Tr Unit)(nv:Nat):jj T (n+1) f args mem aI nv=(match Nat.beq args.length fn.np with|false=>none|true=>match exec (jj T n) (λg=>((T.fs g).map (·.sh)).getD false) n fn.body {slots:=eg 0 args .lf,mem,aI,nv}with|some (.normal,s)|some (.ret,s)=>(kT s fn.res).map λvs=>(ju vs,s.mem,s.aI,s.nv)|_=>none):=by simp[jj,hf];rfl
theorem RR{T:Tb}{f sz:Nat}(hf:T.fs f=some (RP sz))(els:List (List D))(a:AV)(hs:els.all (λe=>e.length==sz)=true)(h:a=.d (.sl els)\/∃o,o≠.bC/\a=.own els o):∃cm ts nv,jj T 50 f [a] [.lf] .lf 0=some (.own els .full,cm,ts,nv):=by
 have go:∀a:AV,jj T 50 f [a] [.lf] .lf 0=ad4 a els.length (jj T 49) (λg=>((T.fs g).map (·.sh)).getD false) (eW sz a 0 (some els.length) (some els.length))->eW sz a 0 (some els.length) (some els.length)=some (.own els .full)->∃cm ts nv,jj T 50 f [a] [.lf] .lf 0=some (.own els .full,cm,ts,nv):=by intro a h1 h2;rw[h2]at h1;exact⟨_,_,_,h1⟩
 rcases h with rfl|⟨o,ho,rfl⟩;.refine go _ ?_ (by simp[eW,hs]);rw[show(50:Nat)=49+1from rfl,xw hf];kernel_rfl
 .cases o with|bC=>exact absurd rfl ho|full=>refine go _ ?_ (by simp[eW,hs]);rw[show(50:Nat)=49+1from rfl,xw hf];kernel_rfl|cD=>refine go _ ?_ (by simp[eW,hs]);rw[show(50:Nat)=49+1from rfl,xw hf];kernel_rfl
def zS(t:Ty):Callee:=⟨[.c (.sl t .d)],[.sl t],[(false,[.sl t .full])],[.sl t],65535,λl=>some l⟩
theorem KQ{T:Tb}{f:Nat}{t:Ty}(hf:T.fs f=some (RP t.size)):kj T f (zS t):=by refineλl y hy=>⟨[.c (.sl t l .d)],rfl,λxs has=>?_⟩;cases hy;match xs,has with
 |[a],ha=>
  obtain⟨cm,ts,nv,hr⟩:=RR hf (bf t l) a (gw t l) ha.1;refine⟨50,_,cm,ts,nv,λm hm=>Mz 50 m hm _ _ _ _ _ _ hr,λws xl=>⟨λh=>absurd rfl h,λrow lv sl ah p CE us w _ CF _ hp _ hw=>?_⟩⟩;have:ws=[(false,[.sl t l .full])]:=by have:jr (zS t).res (unpack (zS t).tr l)=some ([(false,[.sl t l .full])],[]):=rfl<;>grind
  subst this;cases hp;have hw:w=.c (.sl t l .full):=by cases hw;grind
  subst hw;have CF:row%65536=65535:=CF;refine⟨.own (bf t l) .full,?_,λ_ _ _ _=>rfl⟩;simp only[gC,kR,bu,CF,Bool.and_false,show Nat.beq 1 65535=false from rfl,show Nat.beq 65535 65535=true from rfl,Bool.or_true];rfl
end
end Go.Sym
