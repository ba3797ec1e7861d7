/- Calls of the library, over typed data. -/
import Derived.Test.YtokjmkblnafppaaGreatDoorEngLbA
import Derived.Test.YtokjmkblnafppaaGreatDoorSymK
import Derived.KernelRfl
set_option linter.unusedVariables false
set_option linter.unusedSimpArgs false
namespace Go.Sym
open Go Go.bI
noncomputable section
theorem rF {T:Tb} {f:Nat} {c:Callee} (hf:T.fs f=none) (hb:DQ c.args=none) (xW:c.rk=0)
    (h:∀ a y,c.F a=some y→∃ vs,dm c.args (unpack c.ta a)=some (vs,[])∧∀ xs,az (RV ρ0 0 []) vs xs→∃ rv,T.O f xs [.lf] .lf 0=some (rv,[.lf],.lf,0)∧
      ∀ ws w,fY c.res (unpack c.tr y)=some (ws,[])→gX ws=some w→∀ lv sl aR,∃ a',fI [.lf] 0 0 lv sl aR rv=some (a',[])∧∀ ρ B m,RV ρ B m w a'):bt T f c:=by
  refine⟨fun _ a y hy=>?_,fun _ _ hb'=>by rw[hb] at hb';cases hb'⟩
  obtain⟨vs,h1,h2⟩:=h a y hy
  refine⟨vs,h1,fun xs has=>?_⟩
  obtain⟨rv,h3,h4⟩:=h2 xs has
  refine⟨1,rv,[.lf],.lf,0,fun n hn=>?_,fun ws iM=>⟨fun _ w hw lv sl aR=>h4 ws w iM hw lv sl aR,fun _ _ _ _ _ _ _ _ h0=>absurd xW h0⟩⟩
  match n,hn with
  |n+1,_=>simp only[ig,hf,h3]
def nW:Callee:=⟨[.c .str],[.str],[(false,[.sl .str .d])],[.sl .str],0,fun s=>match small s&&Nat.blt s.length 1000000 with
  |true=>some (Lib.fields s)
  |false=>none⟩
theorem Gx {xs:List AV} {s:List UInt8} (h:az (RV ρ0 0 []) [.c (.str s)] xs):xs=[.d (.sc (.string ⟨s.toArray⟩))]:=by
  match xs,h with
  |[a],h=>rw[show a=_ from h.1]
theorem Ea {T:Tb} {f:Nat} (hf:T.fs f=none) (h:∀ xs v,IQ xs=some v→T.O f xs [.lf] .lf 0=some (v,[.lf],.lf,0)):bt T f nW:=by
  refine rF hf rfl rfl fun s y hy=>⟨[.c (.str s)],rfl,fun xs has=>?_⟩
  have:=Gx has
  subst this
  have hy:(match small s&&Nat.blt s.length 1000000 with
    |true=>some (Lib.fields s)
    |false=>none)=some y:=hy
  split at hy
  · rename_i hq
    injection hy with hy;subst hy
    refine⟨.d (.sl ((Lib.fields s).map fun x=>[.sc (.string ⟨x.toArray⟩)])),h _ _ (by simp only[IQ,hq]),fun ws w iM hw lv sl aR=>?_⟩
    have:ws=[(false,[.sl .str (Lib.fields s) .d])]:=by
      have:fY nW.res (unpack nW.tr (Lib.fields s))=some ([(false,[.sl .str (Lib.fields s) .d])],[]):=rfl
      rw[this] at iM;injection iM with iM;injection iM with iM _;exact iM.symm
    subst this
    have:w=.c (.sl .str (Lib.fields s) .d):=by injection hw with hw;exact hw.symm
    subst this
    exact⟨_,rfl,fun ρ B m=>.inl rfl⟩
  · cases hy
def qB:Callee:=⟨[.c .str,.c .str],[.str,.str],[(false,[.sl .str .d])],[.sl .str],0,fun x=>match Nat.blt x.1.length 1000000&&Nat.blt 0 x.2.length with
  |true=>some (Lib.splitK x.2 0 (Lib.count x.1 x.2) x.1)
  |false=>none⟩
theorem Gy {T:Tb} {f:Nat} (hf:T.fs f=none) (h:∀ xs v,IS xs=some v→T.O f xs [.lf] .lf 0=some (v,[.lf],.lf,0)):bt T f qB:=by
  refine rF hf rfl rfl fun s y hy=>⟨[.c (.str s.1),.c (.str s.2)],rfl,fun xs has=>?_⟩
  obtain⟨s,q⟩:=s
  have:xs=[.d (.sc (.string ⟨s.toArray⟩)),.d (.sc (.string ⟨q.toArray⟩))]:=by
    match xs,has with
    |[a,b],h=>rw[show a=_ from h.1,show b=_ from h.2.1]
  subst this
  have hy:(match Nat.blt s.length 1000000&&Nat.blt 0 q.length with
    |true=>some (Lib.splitK q 0 (Lib.count s q) s)
    |false=>none)=some y:=hy
  split at hy
  · rename_i hq
    injection hy with hy;subst hy
    refine⟨.d (.sl ((Lib.splitK q 0 (Lib.count s q) s).map fun x=>[.sc (.string ⟨x.toArray⟩)])),h _ _ (by simp only[IS,hq]),fun ws w iM hw lv sl aR=>?_⟩
    generalize Lib.splitK q 0 (Lib.count s q) s=y at *
    have:ws=[(false,[.sl .str y .d])]:=by
      have:fY qB.res (unpack qB.tr y)=some ([(false,[.sl .str y .d])],[]):=rfl
      rw[this] at iM;injection iM with iM;injection iM with iM _;exact iM.symm
    subst this
    have:w=.c (.sl .str y .d):=by injection hw with hw;exact hw.symm
    subst this
    exact⟨_,rfl,fun ρ B m=>.inl rfl⟩
  · cases hy
def oP : Callee := ⟨[.c .str], [.str], [(false, [.int .i64]), (false, [.er])], [.int .i64, .bool], 0, fun s => match Nat.ble s.length 18 with
  | true => match Lib.atoi s with
    |some n=>some (n,false)
    |none=>some (0,true)
  |false=>none⟩
theorem IT {T:Tb} {f:Nat} (hf:T.fs f=none) (h:∀ xs v,Gv xs=some v→T.O f xs [.lf] .lf 0=some (v,[.lf],.lf,0)):bt T f oP:=by
  refine rF hf rfl rfl fun s y hy=>⟨[.c (.str s)],rfl,fun xs has=>?_⟩
  have:=Gx has
  subst this
  have hy:(match Nat.ble s.length 18 with
    | true => match Lib.atoi s with
      |some n=>some (n,false)
      |none=>some ((0:Int),true)
    |false=>none)=some y:=hy
  have fin:∀ (n:Int) (b:Bool),y=(n,b)→∀ ws w,fY oP.res (unpack oP.tr y)=some (ws,[])→gX ws=some w→∀ lv sl aR,∃ a',fI [.lf] 0 0 lv sl aR (.gZ [.d (.sc (.int .i64 n)),.d (match b with
      |true=>.er
      |false=>.sc .nilIface)])=some (a',[])∧∀ ρ B m,RV ρ B m w a':=by
    rintro n b rfl ws w iM hw lv sl aR
    have:ws=[(false,[.int .i64 n]),(false,[.er b])]:=by
      have:fY oP.res (unpack oP.tr (n,b))=some ([(false,[.int .i64 n]),(false,[.er b])],[]):=rfl
      rw[this] at iM;injection iM with iM;injection iM with iM _;exact iM.symm
    subst this
    have:w=.gZ [(false,[.int .i64 n]),(false,[.er b])]:=by injection hw with hw;exact hw.symm
    subst this
    cases b<;>exact⟨_,rfl,fun ρ B m=>⟨_,rfl,⟨_,rfl,rfl⟩,⟨_,rfl,rfl⟩,trivial⟩⟩
  split at hy
  · rename_i hq
    split at hy
    · rename_i n hn
      injection hy with hy;subst hy
      exact⟨_,h _ _ (by simp only[Gv,hq,hn]),fin n false rfl⟩
    · rename_i hn
      injection hy with hy;subst hy
      exact⟨_,h _ _ (by simp only[Gv,hq,hn]),fin 0 true rfl⟩
  · cases hy
def oQ : Callee := ⟨[.c (.int .i64)], [.int .i64], [(false, [.str])], [.str], 0, fun n => match n with
  | .ofNat k => match Nat.blt k 100 with
    |true=>some (QH k)
    |false=>none
  | .negSucc k => match Nat.blt k 99 with
    |true=>some (45 :: QH (k+1))
    |false=>none⟩
theorem IU {T:Tb} {f:Nat} (hf:T.fs f=none) (h:∀ xs v,Gw xs=some v→T.O f xs [.lf] .lf 0=some (v,[.lf],.lf,0)):bt T f oQ:=by
  refine rF hf rfl rfl fun n y hy=>⟨[.c (.int .i64 n)],rfl,fun xs hxs=>?_⟩
  have:xs=[.d (.sc (.int .i64 n))]:=by
    match xs,hxs with
    |[a],h=>rw[show a=_ from h.1]
  subst this
  have fin:∀ ws w,fY oQ.res (unpack oQ.tr y)=some (ws,[])→gX ws=some w→∀ lv sl aR,∃ a',fI [.lf] 0 0 lv sl aR (.d (.sc (.string ⟨y.toArray⟩)))=some (a',[])∧∀ ρ B m,RV ρ B m w a':=by
    intro ws w iM hw lv sl aR
    have:ws=[(false,[.str y])]:=by
      have:fY oQ.res (unpack oQ.tr y)=some ([(false,[.str y])],[]):=rfl
      rw[this] at iM;injection iM with iM;injection iM with iM _;exact iM.symm
    subst this
    have:w=.c (.str y):=by injection hw with hw;exact hw.symm
    subst this
    exact⟨_,rfl,fun ρ B m=>rfl⟩
  clear hxs
  cases n with
  | ofNat k =>
    have hy:(match Nat.blt k 100 with
      |true=>some (QH k)
      |false=>none)=some y:=hy
    split at hy
    · rename_i hq
      injection hy with hy;subst hy
      exact⟨_,h _ (.d (.sc (.string ⟨(QH k).toArray⟩))) (by simp only[Gw,hq]),fin⟩
    · cases hy
  | negSucc k =>
    have hy:(match Nat.blt k 99 with
      |true=>some (45 :: QH (k+1))
      |false=>none)=some y:=hy
    split at hy
    · rename_i hq
      injection hy with hy;subst hy
      exact⟨_,h _ (.d (.sc (.string ⟨(45 :: QH (k+1)).toArray⟩))) (by simp only[Gw,hq]),fin⟩
    · cases hy
def OB (sz:Nat):cV:=⟨1,9,[.t 2],
 (.seq
  (.region [⟨(some 2),.ED (.c (.own [] .full)),none,0,0⟩] false)
  (.seq
   (.region [⟨(some 3),.ED (.t 0),none,0,0⟩,
     ⟨(some 4),.ED (.t 0),none,0,0⟩,
     ⟨(some 5),.len (.t 4),none,0,0⟩,
     ⟨(some 6),.ED (.t 0),none,0,0⟩,
     ⟨(some 7),.len (.t 6),none,0,0⟩,
     ⟨(some 8),.slice sz (.t 3) none (some (.t 5)) (some (.t 7)),none,0,0⟩,
     ⟨(some 2),.ED (.t 8),none,0,0⟩] false)
   .ret)),false⟩
def VO (a:AV) (n:Nat):St:={ slots:=tC (tC (tC (tC (tC (tC (dN 0 [a] .lf) (some 2) (.own [] .full)) (some 3) a) (some 4) a) (some 5) (nq n)) (some 6) a) (some 7) (nq n),mem:=[.lf],aE:=.lf,nv:=8 }
def aaf (a : AV) (n : Nat) (call : bI.Call) (sh : Nat → Bool) (o : Option AV) : Option (AV × List (Tr bH) × Tr Unit × Nat) :=
  match (match Option.map (fun s'=>(AX.normal,s')) (match o.bind eX.pure with
    |none=>none
    |some e=>jK call sh 1 6 [⟨(some 2),.ED (.t 8),none,0,0⟩] ((VO a n).app (some 8) e)) with
    |some (.normal,s')=>exec call sh 47 .ret s'
    |r=>r) with
  |some (.normal,s)|some (.ret,s)=>(j6 s [.t 2]).map fun vs=>(gU vs,s.mem,s.aE,s.nv)
  |_=>none
theorem vM {T : Tb} {f : Nat} {fn : cV} (hf : T.fs f = some fn) (n : Nat) (args : List AV) (mem : List (Tr bH)) (aE : Tr Unit) (nv : Nat) : ig T (n + 1) f args mem aE nv = (match Nat.beq args.length fn.np with
      |false=>none
      | true => match exec (ig T n) (fun g => ((T.fs g).map (·.sh)).getD false) n fn.body { slots := dN 0 args .lf, mem, aE, nv } with
        |some (.normal,s)|some (.ret,s)=>(j6 s fn.res).map fun vs=>(gU vs,s.mem,s.aE,s.nv)
        |_=>none):=by simp only[ig,hf];rfl
theorem OC {T:Tb} {f sz:Nat} (hf:T.fs f=some (OB sz)) (els:List (List D)) (a:AV) (hs:els.all (fun e=>e.length==sz)=true) (h:a=.d (.sl els)∨∃ o,o≠.aJ∧a=.own els o) :
    ∃ cm ts nv,ig T 50 f [a] [.lf] .lf 0=some (.own els .full,cm,ts,nv):=by
  have go:∀ a:AV,ig T 50 f [a] [.lf] .lf 0=aaf a els.length (ig T 49) (fun g=>((T.fs g).map (·.sh)).getD false) (dZ sz a 0 (some els.length) (some els.length))→dZ sz a 0 (some els.length) (some els.length)=some (.own els .full)→∃ cm ts nv,ig T 50 f [a] [.lf] .lf 0=some (.own els .full,cm,ts,nv):=by
    intro a h1 h2
    rw[h2] at h1
    exact⟨_,_,_,h1⟩
  rcases h with rfl|⟨o,ho,rfl⟩
  · refine go _ ?_ (by simp [dZ, hs])
    rw[show (50:Nat)=49+1 from rfl,vM hf]
    kernel_rfl
  · cases o with
    |aJ=>exact absurd rfl ho
    | full =>
      refine go _ ?_ (by simp[dZ,hs])
      rw[show (50:Nat)=49+1 from rfl,vM hf]
      kernel_rfl
    | cx =>
      refine go _ ?_ (by simp[dZ,hs])
      rw[show (50:Nat)=49+1 from rfl,vM hf]
      kernel_rfl
def yB (t:Ty):Callee:=⟨[.c (.sl t .d)],[.sl t],[(false,[.sl t .full])],[.sl t],65535,fun l=>some l⟩
theorem IV {T:Tb} {f:Nat} {t:Ty} (hf:T.fs f=some (OB t.size)):bt T f (yB t):=by
  refine⟨fun _ l y hy=>⟨[.c (.sl t l .d)],rfl,fun xs has=>?_⟩,fun _ _ hb=>by cases hb⟩
  have hy:some l=some y:=hy
  injection hy with hy;subst hy
  match xs,has with
  | [a], ha =>
    obtain⟨cm,ts,nv,hr⟩:=OC hf (bx t l) a (fT t l) ha.1
    refine⟨50,_,cm,ts,nv,fun m hm=>J2 50 m hm _ _ _ _ _ _ hr,fun ws iM=>⟨fun h=>absurd rfl h,fun row lv sl af p Am us w _ yy _ hp _ hw=>?_⟩⟩
    have:ws=[(false,[.sl t l .full])]:=by
      have:fY (yB t).res (unpack (yB t).tr l)=some ([(false,[.sl t l .full])],[]):=rfl
      rw[this] at iM;injection iM with iM;injection iM with iM _;exact iM.symm
    subst this
    have hp:some ([(false,[Cell.sl t l .full])],([]:List SL))=some (Am,us):=hp
    injection hp with hp;injection hp with h1 h2
    subst h1;subst h2
    have hw:w=.c (.sl t l .full):=by injection hw with hw;exact hw.symm
    subst hw
    have yy:row % 65536=65535:=yy
    refine⟨.own (bx t l) .full,?_,fun _ _ _ _=>rfl⟩
    simp only[fI,jG,bu,yy,Bool.and_false,show Nat.beq 1 65535=false from rfl,show Nat.beq 65535 65535=true from rfl,Bool.or_true]
    rfl
end
end Go.Sym
