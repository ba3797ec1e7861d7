/- A part of the proof: EngBd, EngDf, EngDg, EngDh, EngMono, EngTb, SymJ. -/
import Derived.Test.YtjejefeomeddhaaGreatEngD
import Derived.Test.YtjejefeomeddhaaGreatSymD
import Derived.Defers
import Derived.Test.YtjejefeomeddhaaGreatSymI
set_option linter.unusedVariables false
set_option linter.unusedSimpArgs false
namespace Go.Eng
open Go
structure DFn where
 np:Nat
 nt:Nat
 pre:AC
 g:Nat
 caps:List Nat
 dst:Nat
 body:AC
 res:List ARes
 sh:Bool
 deriving Inhabited
def tmpsOf:List Operand→Option (List Nat)
 |[]=>some []
 |.tmp t :: r=>(tmpsOf r).map (t :: ·)
 |_=>none
def dcodeP : Code → Option (Code × Nat × List Nat × Nat × Code)
 | .seq r1 (.seq (.region _ ⟨[o1, o2]⟩ false) rest) => match o1.op, o1.dst, o1.guard, o2.op, o2.dst, o2.guard with
  | .makeFunc (.func g) ⟨[]⟩ ⟨cap⟩, some d, none, .defer c, none, none => match c.callee, c.args with
   |.value (.tmp d'),⟨[]⟩=>match Nat.beq d' d,tmpsOf cap with
    |true,some l=>some (r1,g,l,d,rest)
    |_,_=>none
   |_,_=>none
  |_,_,_,_,_,_=>none
 |_=>none
def dfnP (P : Program) (lib : Nat → Option TypeId) (md : Nat → Mode) (f : Nat) : Option DFn :=
 match P.funcs[f]? with
 |none=>none
 | some fn => match fn.body with
  |none=>none
  | some c =>
   if fn.name == "runtime.NumGoroutine" then none
   else match dcodeP c,ressP P fn.results.toList with
    | some (r1, g, caps, d, rest), some rs => match codeP P lib fn.ntmps (md f).rows r1, codeP P lib fn.ntmps (md f).rows rest with
     |some pre,some body=>
      if fn.params.size+fn.nfree≤fn.ntmps∧d<fn.ntmps then some { np:=fn.params.size+fn.nfree,nt:=fn.ntmps,pre,g,caps,dst:=d,body,res:=rs,sh:=(md f).sh } else none
     |_,_=>none
    |_,_=>none
def retTo (id:Nat):AC→AC
 |.seq a b=>.seq (retTo id a) (retTo id b)
 |.cond c a b=>.cond c (retTo id a) (retTo id b)
 |.block i c=>.block i (retTo id c)
 |.loop c=>.loop (retTo id c)
 |.ret=>.exit id
 |c=>c
def noEx (id:Nat):AC→Bool
 |.seq a b=>noEx id a&&noEx id b
 |.cond _ a b=>noEx id a&&noEx id b
 |.block i c=>!Nat.beq i id&&noEx id c
 |.loop c=>noEx id c
 |.exit i=>!Nat.beq i id
 |_=>true
def keepT (t:Nat):AC→Bool
 |.region ops _=>ops.all fun o=>match o.dst with
  |some d=>!Nat.beq d t
  |none=>true
 |.seq a b=>keepT t a&&keepT t b
 |.cond _ a b=>keepT t a&&keepT t b
 |.block _ c=>keepT t c
 |.loop c=>keepT t c
 |_=>true
def gdf:Nat:=1099511627776
def isReg:AC→Bool
 |.region _ _=>true
 |_=>false
def mkD (d:DFn):AFn:=
 { np := d.np, nt := d.nt, res := d.res, sh := d.sh, body := .seq d.pre (.seq (.region [⟨some d.dst, .makeFunc d.g (d.caps.map .t), none, 0, 0⟩] false)
   (.seq (.block gdf (retTo gdf d.body)) (.region [⟨none,.callv (.t d.dst) [],none,0,0⟩] false))) }
def okD0 (d:DFn):Bool:=isReg d.pre&&noEx gdf d.body&&keepT d.dst d.body
def dfnA (P:Program) (lib:Nat→Option TypeId) (md:Nat→Mode) (f:Nat):Option AFn:=match dfnP P lib md f with
 |none=>none
 | some d => match okD0 d, fnP P lib md d.g with
  |true,some g=>match g.sh&&g.res.isEmpty with
   |true=>some (mkD d)
   |false=>none
  |_,_=>none
def fnQ (P:Program) (lib:Nat→Option TypeId) (md:Nat→Mode) (f:Nat):Option AFn:=match fnP P lib md f with
 |some x=>some x
 |none=>dfnA P lib md f
end Go.Eng
variable [Go.Eng.Rho]
set_option linter.unusedSectionVars false
namespace Go.Eng
open Go Go.RowKit
section
variable {P:Program} {X:Cx}
theorem tmpsOf_opds:∀ {l:List Operand} {ts:List Nat},tmpsOf l=some ts→opds l=some (ts.map .t)
 |[],ts,h=>by cases h;rfl
 |.tmp t :: r,ts,h=>by
  obtain⟨ys,h1,rfl⟩:=opt_map h
  simp[opds,opd,tmpsOf_opds h1,List.map_cons]
 |.const _ :: _,_,h=>by simp[tmpsOf] at h
 |.global _ :: _,_,h=>by simp[tmpsOf] at h
 |.func _ :: _,_,h=>by simp[tmpsOf] at h
theorem VC0.V1 {x:AV} {v:Value} (h:VC0 X x v):Go.Eng.V1 X x v:=by
 cases x<;>first|exact h|exact h.elim
structure DCode (c r1 rest:Code) (g:Nat) (caps:List Nat) (d:Nat):Prop where
 code:∃ id o1 o2 cap cal,c=.seq r1 (.seq (.region id #[o1,o2] false) rest)∧o1.op=.makeFunc (.func g) #[] cap∧o1.dst=some d∧o1.guard=none∧o2.op=.defer cal∧o2.dst=none∧o2.guard=none∧
  cal.callee=.value (.tmp d)∧cal.args = #[]∧opds cap.toList=some (caps.map .t)
theorem dcodeP_spec {c r1 rest:Code} {g d:Nat} {caps:List Nat} (h:dcodeP c=some (r1,g,caps,d,rest)):DCode c r1 rest g caps d:=by
 unfold dcodeP at h
 split at h
 case h_2=>cases h
 rename_i r1' id o1 o2 rest'
 split at h
 case h_2=>cases h
 rename_i g' cap d' cal h1 h2 h3 h4 h5 h6
 split at h
 case h_2=>cases h
 rename_i d'' h7 h8
 split at h
 case h_2=>cases h
 rename_i l hb hl
 have hb:=Nat.eq_of_beq_eq_true hb
 subst hb
 cases h
 exact⟨⟨id,o1,o2,⟨cap⟩,cal,rfl,h1,h2,h3,h4,h5,h6,h7,h8,tmpsOf_opds hl⟩⟩
end
end Go.Eng
set_option linter.unusedSectionVars false
namespace Go.Eng
open Go Go.RowKit
def axTo (id:Nat):AX→AX
 |.ret=>.exit id
 |x=>x
section
variable {call:Go.Eng.Call} {sh:Nat→Bool} {id:Nat}
theorem beq_ne {a b:Nat} (h:Nat.beq a b=false):a≠b:=Nat.ne_of_beq_eq_false h
theorem retTo_exec:∀ (n:Nat) (c:AC) (s:St),noEx id c=true→exec call sh n (retTo id c) s=(exec call sh n c s).map fun r=>(axTo id r.1,r.2)
 |0,_,_,_=>rfl
 |n+1,.skip,s,_=>rfl
 |n+1,.region ops draw,s,_=>by
  simp[retTo,exec]
  cases runRegion call sh ops draw s<;>rfl
 | n + 1, .seq a b, s, h => by
  simp[noEx,Bool.and_eq_true] at h
  simp[retTo,exec,retTo_exec n a s h.1]
  cases exec call sh n a s with
  |none=>rfl
  |some r=>
   obtain⟨x,s'⟩:=r
   cases x<;>simp[axTo,retTo_exec n b s' h.2]
 |n+1,.cond c a b,s,h=>by
  simp[noEx,Bool.and_eq_true] at h
  simp only[retTo,exec,retTo_exec n a s h.1,retTo_exec n b s h.2]<;>grind
 | n + 1, .block i c, s, h => by
  simp[noEx,Bool.and_eq_true,Bool.not_eq_true'] at h
  simp[retTo,exec,retTo_exec n c s h.2]
  cases exec call sh n c s with
  |none=>rfl
  | some r =>
   obtain⟨x,s'⟩:=r
   cases x with
   |normal=>rfl
   | ret =>
    have:Nat.beq id i=false:=by
     have:=beq_ne h.1
     cases hq:Nat.beq id i with
     |false=>rfl
     |true=>simp_all
    simp[axTo,this]
   |exit j=>
    simp only[axTo,Option.map_some]<;>grind
 | n + 1, .loop c, s, h => by
  simp[retTo,exec,retTo_exec n c s h]
  cases exec call sh n c s with
  |none=>rfl
  |some r=>
   obtain⟨x,s'⟩:=r
   cases x with
   |normal=>exact retTo_exec n (.loop c) s' h
   |ret=>rfl
   |exit j=>rfl
 |n+1,.exit i,s,h=>rfl
 |n+1,.ret,s,_=>rfl
theorem noEx_exec:∀ (n:Nat) (c:AC) (s s':St),noEx id c=true→exec call sh n c s=some (.exit id,s')→False
 |0,_,_,_,_,h=>by cases h
 |n+1,.skip,s,_,_,h=>by simp[exec] at h
 |n+1,.region ops draw,s,_,_,h=>by
  simp[exec] at h
 |n+1,.seq a b,s,s',h0,h=>by
  simp[noEx,Bool.and_eq_true] at h0
  simp[exec] at h
  split at h
  ·exact noEx_exec n b _ _ h0.2 h
  ·exact noEx_exec n a _ _ h0.1 h
 |n+1,.cond c a b,s,s',h0,h=>by
  simp[noEx,Bool.and_eq_true] at h0
  simp[exec] at h
  split at h
  ·exact noEx_exec n a _ _ h0.1 h
  ·exact noEx_exec n b _ _ h0.2 h
  grind
 | n + 1, .block i c, s, s', h0, h => by
  simp[noEx,Bool.and_eq_true] at h0
  simp[exec] at h
  split at h
  ·rename_i j s2 he
   split at h
   ·simp at h
   ·cases h
    exact noEx_exec n c _ _ h0.2 he
  grind
 |n+1,.loop c,s,s',h0,h=>by
  have h1:=h0
  simp[exec] at h
  split at h
  ·exact noEx_exec n (.loop c) _ _ h1 h
  ·exact noEx_exec n c _ _ h0 h
 |n+1,.exit i,s,s',h0,h=>by
  simp_all[exec,noEx,Call]
 |n+1,.ret,s,_,_,h=>by simp[exec] at h
theorem app_keep {s:St} {dst:Option Nat} {e:Res} {t:Nat} (h:(match dst with|some d=>!Nat.beq d t|none=>true)=true):getS (s.app dst e).slots t=getS s.slots t:=by
 have:∀ v,getS (putS s.slots dst v) t=getS s.slots t:=fun v=>by
  cases dst with
  |none=>rfl
  |some d=>
   simp only[Bool.not_eq_true'] at h
   have:=beq_ne h
   simp[getS,putS,Tr.get_set,this]
 cases e<;>exact this _
theorem ops_keep {nv0 t:Nat} : ∀ {l:List AOper} {i:Nat} {s s':St},(l.all fun o=>match o.dst with|some d=>!Nat.beq d t|none=>true)=true→runOps call sh nv0 i l s=some s'→getS s'.slots t=getS s.slots t
 |[],_,_,_,_,h=>by cases h;rfl
 | o :: r, i, s, s', h0, h => by
  simp only[List.all_cons,Bool.and_eq_true] at h0
  simp[runOps] at h
  split at h
  ·cases h
  ·rw [ops_keep h0.2 h]
   exact app_keep h0.1
theorem any_keep {nv0 t:Nat} : ∀ {l:List AOper} {i:Nat} {past:List (Nat×Res)} {s s':St},(l.all fun o=>match o.dst with|some d=>!Nat.beq d t|none=>true)=true→runAny call sh nv0 i l past s=some s'→getS s'.slots t=getS s.slots t
 |[],_,_,_,_,_,h=>by cases h;rfl
 | o :: r, i, past, s, s', h0, h => by
  simp only[List.all_cons,Bool.and_eq_true] at h0
  simp[runAny] at h
  split at h
  ·cases h
  ·split at h
   ·rw [any_keep h0.2 h]
    exact app_keep h0.1
   grind
theorem exec_keep {t:Nat} : ∀ (n:Nat) (c:AC) (s:St) (x:AX) (s':St),keepT t c=true→exec call sh n c s=some (x,s')→getS s'.slots t=getS s.slots t
 |0,_,_,_,_,_,h=>by cases h
 |n+1,.skip,s,_,_,_,h=>by cases h;rfl
 |n+1,.region ops draw,s,x,s',h0,h=>by
  simp only[exec,Option.map_eq_some_iff] at h
  obtain⟨s2,h1,h2⟩:=h
  cases h2
  cases draw with
  |false=>exact ops_keep (s:={ s with nv:=s.nv+ops.length }) h0 h1
  |true=>exact any_keep (s:={ s with nv:=s.nv+ops.length }) h0 h1
 | n + 1, .seq a b, s, x, s', h0, h => by
  simp[keepT,Bool.and_eq_true] at h0
  simp[exec] at h
  split at h
  ·rename_i s2 he
   rw[exec_keep n b _ _ _ h0.2 h,exec_keep n a _ _ _ h0.1 he]
  ·exact exec_keep n a _ _ _ h0.1 h
 |n+1,.cond c a b,s,x,s',h0,h=>by
  simp[keepT,Bool.and_eq_true] at h0
  simp[exec] at h
  split at h
  ·exact exec_keep n a _ _ _ h0.1 h
  ·exact exec_keep n b _ _ _ h0.2 h
  grind
 | n + 1, .block i c, s, x, s', h0, h => by
  simp[exec] at h
  split at h
  ·rename_i j s2 he
   split at h
   ·cases h
    exact exec_keep n c _ _ _ h0 he
   ·cases h
    exact exec_keep n c _ _ _ h0 he
  ·exact exec_keep n c _ _ _ h0 h
 | n + 1, .loop c, s, x, s', h0, h => by
  have h1:=h0
  simp[exec] at h
  split at h
  ·rename_i s2 he
   rw[exec_keep n (.loop c) _ _ _ h1 h,exec_keep n c _ _ _ h0 he]
  ·exact exec_keep n c _ _ _ h0 h
 |n+1,.exit i,s,x,s',_,h=>by cases h;rfl
 |n+1,.ret,s,x,s',_,h=>by cases h;rfl
end
section
variable {P:Program} {X:Cx} {call:Go.Eng.Call} {sh:Nat→Bool}
theorem exec_seq {n:Nat} {a b:AC} {s:St} {r:AX×St} (h:exec call sh n (.seq a b) s=some r):∃ m,n=m+1∧((∃ s1,exec call sh m a s=some (.normal,s1)∧exec call sh m b s1=some r)∨(exec call sh m a s=some r∧r.1≠.normal)):=by
 cases n with
 |zero=>cases h
 |succ m=>
  refine⟨m,rfl,?_⟩
  simp only[exec] at h<;>grind
theorem block_normal {n:Nat} {c:AC} {s s2:St} (hc:noEx gdf c=true) (h:exec call sh n (.block gdf (retTo gdf c)) s=some (.normal,s2)):∃ m ax,exec call sh m c s=some (ax,s2)∧(ax=.normal∨ax=.ret):=by
 cases n with
 |zero=>cases h
 | succ m =>
  simp[exec,retTo_exec m c s hc] at h
  cases he:exec call sh m c s with
  |none=>grind
  | some r =>
   obtain⟨ax,s3⟩:=r
   rw[he] at h
   cases ax with
   |normal=>
    grind
   |ret=>
    grind
   | exit j =>
    simp[axTo,Option.map_some] at h
    split at h
    ·rename_i hb
     cases Nat.eq_of_beq_eq_true hb
     exact (noEx_exec m c s s3 hc he).elim
    grind
theorem block_ret {n:Nat} {c:AC} {s s2:St} (hc:noEx gdf c=true):exec call sh n (.block gdf (retTo gdf c)) s≠some (.ret,s2):=by
 intro h
 cases n with
 |zero=>cases h
 | succ m =>
  simp[exec,retTo_exec m c s hc] at h
  cases he:exec call sh m c s with
  |none=>grind
  | some r =>
   obtain⟨ax,s3⟩:=r
   rw[he] at h
   cases ax with
   |normal=>simp[axTo] at h
   |ret=>simp[axTo] at h
   |exit j=>
    simp only[axTo,Option.map_some] at h<;>grind
end
end Go.Eng
set_option linter.unusedSectionVars false
namespace Go.Eng
open Go Go.RowKit
section
variable {P:Program} {X:Cx} {call:Go.Eng.Call} {sh:Nat→Bool}
theorem reg_run {n:Nat} {c:AC} {s s':St} {ax:AX} (hr:isReg c=true) (h:exec call sh n c s=some (ax,s')):ax=.normal:=by
 cases n with
 |zero=>cases h
 |succ m=>
  cases c<;>first|cases hr|skip
  simp_all[exec,Call]
theorem mkD_run {n:Nat} {d:DFn} {s0 s3:St} {ax:AX} (hk:okD0 d=true) (hsh:sh d.g=true) (h:exec call sh n (mkD d).body s0=some (ax,s3)) (hax:ax=.normal∨ax=.ret) :
  ∃ n1 s1 n2 s2 ax2 rg cm ts nv3,exec call sh n1 d.pre s0=some (.normal,s1)∧(d.caps.map (getS s1.slots)).all isCell0=true∧
   exec call sh n2 d.body { s1 with slots:=putS s1.slots (some d.dst) (.clo d.g (d.caps.map (getS s1.slots))),nv:=s1.nv+1 } = some (ax2,s2)∧(ax2=.normal∨ax2=.ret)∧
   call d.g (d.caps.map (getS s1.slots)) (s2.mem++[.lf]) s2.tips (s2.nv+1)=some (rg,cm,ts,nv3)∧
   (rg=.tup []→s3 = { slots:=s2.slots,mem:=cm.take s2.mem.length,tips:=ts,nv:=nv3 }):=by
 simp[okD0,Bool.and_eq_true] at hk
 obtain⟨⟨hreg,hne⟩,hkeep⟩:=hk
 obtain⟨m,e1,g1⟩:=exec_seq h
 rcases g1 with⟨s1,h1,h⟩|⟨h1,hn⟩
 case inr=>exact absurd (reg_run hreg h1) hn
 obtain⟨m2,e2,g2⟩:=exec_seq h
 rcases g2 with⟨s1',h2,h⟩|⟨h2,hn⟩
 case inr=>exact absurd (reg_run rfl h2) hn
 obtain⟨m3,e3,g3⟩:=exec_seq h
 clear h
 subst e3
 rcases g3 with⟨s2,h3,h⟩|⟨h3,hn⟩
 case inr=>
  rcases hax with rfl|rfl
  ·exact absurd rfl hn
  ·exact absurd h3 (block_ret hne)
 obtain⟨m4,ax2,h5,hax2⟩:=block_normal hne h3
 have hev:∀ (t:Tr AV),evs t (d.caps.map .t)=d.caps.map (getS t):=fun t=>by
  unfold evs;rw[List.map_map];rfl
 have q:(d.caps.map (getS s1.slots)).all isCell0=true∧s1' = { s1 with slots:=putS s1.slots (some d.dst) (.clo d.g (d.caps.map (getS s1.slots))),nv:=s1.nv+1 }:=by
  simp only[exec,Option.map_eq_some_iff] at h2
  obtain⟨s4,h6,h7⟩:=h2
  cases h7
  simp only[runRegion,runOps,AOper.step,wantedA,AOp.run,hev] at h6
  by_cases hc:(d.caps.map (getS s1.slots)).all isCell0=true
  ·rw [if_pos hc] at h6
   simp[Eff.pure,Option.some.injEq] at h6
   exact⟨hc,h6.symm⟩
  grind
 obtain⟨hc,rfl⟩:=q
 have hdst:getS s2.slots d.dst=.clo d.g (d.caps.map (getS s1.slots)):=by
  rw[exec_keep m4 d.body _ _ _ hkeep h5]
  simp[getS,putS,Tr.get_set]
 cases m3 with
 |zero=>cases h
 |succ m5=>
 simp only[exec,Option.map_eq_some_iff] at h
 obtain⟨s4,h6,h7⟩:=h
 cases h7
 simp[runRegion,runOps,AOper.step,wantedA,AOp.run,Opd.ev,hdst,hsh,evs,List.map_nil,List.nil_append,doCall] at h6
 split at h6
 ·cases h6
 rename_i e he
 split at he
 ·cases he
 split at he
 ·cases he
 rename_i rg cm ts nv3 hcall
 refine⟨_,s1,_,s2,ax2,rg,cm,ts,nv3,h1,hc,h5,hax2,hcall,?_⟩
 rintro rfl
 have hi:∀ k row lv sl nvi,impR cm k row lv sl nvi (.tup [])=some (.tup [],[]):=fun _ _ _ _ _=>rfl
 cases he
 cases h6
 rfl
theorem stepD_ok (hcall:CallOK P call) {lib:Nat→Option TypeId} {md:Nat→Mode} {Fs:Nat→Option AFn} (hm:P.follows .mixedOrders=true) (hlib:∀ f T,lib f=some T→IsLib P f T)
  (hgo:∀ g gf,fnP P lib md g=some gf→Fs g=some gf→∀ args mem tips nv x,call g args mem tips nv=some x→∃ call' n',CallOK P call'∧stepF call' Fs n' g args mem tips nv=some x)
  (hFs:∀ f fn,Fs f=some fn→fnQ P lib md f=some fn) (hgs:∀ f d,(Fs f).isSome=true→dfnP P lib md f=some d→(Fs d.g).isSome=true) (n:Nat):CallOK P (stepF call Fs n):=by
 intro f args mem tips nv r mem' tips' nv' h X vargs hmem hdom hargs
 cases hfp:fnP P lib md f with
 | some fp =>
  obtain⟨pf,c,h1,h2,h3,h4⟩:=stepF_wp (md:=md) hcall hm hlib n (fun fn hfn=>by
   have:=hFs f fn hfn
   simp only[fnQ,hfp] at this
   rw[hfp];exact this) h X vargs hmem hdom hargs
  exact⟨⟨pf,h1,by rw[h2];rfl,h3⟩,calls_of_wp h1 h2 h4⟩
 |none=>
 have h0:=h
 simp only[stepF] at h
 split at h
 ·cases h
 rename_i fn hfn
 have hq:=hFs f fn hfn
 simp only[fnQ,hfp,dfnA] at hq
 split at hq
 ·cases hq
 rename_i d hdf
 split at hq
 case h_2=>cases hq
 rename_i gf hok hgf
 split at hq
 case h_2=>cases hq
 rename_i hgk
 injection hq with hq
 subst hq
 rw[Bool.and_eq_true] at hgk
 obtain⟨hgsh,hgres⟩:=hgk
 have hFg:Fs d.g=some gf:=by
  have:=hgs f d (by rw[hfn];rfl) hdf
  cases hg:Fs d.g with
  |none=>rw[hg] at this;cases this
  |some gf'=>
   have:=hFs d.g gf' hg
   simp only[fnQ,hgf] at this
   rw[this]
 split at h
 ·cases h
 rename_i hnp
 have hnp:=Nat.eq_of_beq_eq_true hnp
 have hrun:∃ ax s3,exec call (fun g=>((Fs g).map (·.sh)).getD false) n (mkD d).body { slots:=argSlots 0 args .lf,mem,tips,nv } = some (ax,s3)∧(ax=.normal∨ax=.ret)∧(resAll s3 d.res).map (fun vs=>(tupOf vs,s3.mem,s3.tips,s3.nv))=some (r,mem',tips',nv'):=by
  split at h
  ·rename_i s3 he
   exact⟨_,s3,he,.inl rfl,h⟩
  ·rename_i s3 he
   exact⟨_,s3,he,.inr rfl,h⟩
  ·cases h
 clear h
 obtain⟨ax,s3,he,hax,hres⟩:=hrun
 obtain⟨n1,s1,n2,s2,ax2,rg,cm,ts,nv3,he1,hcell,he2,hax2,hcg,hs3e⟩:=mkD_run hok (by simp[hFg,hgsh]) he hax
 obtain⟨call',n',hcall',hg⟩:=hgo d.g gf hgf hFg _ _ _ _ _ hcg
 have hrg:rg=.tup []:=by
  have hg2:=hg
  simp only[stepF,hFg] at hg2
  split at hg2
  ·cases hg2
  have hnil:gf.res=[]:=List.isEmpty_iff.1 hgres
  split at hg2
  ·simp only [hnil, resAll, tupOf, Option.map_some, Option.some.injEq, Prod.mk.injEq] at hg2
   exact hg2.1.symm
  ·simp only [hnil, resAll, tupOf, Option.map_some, Option.some.injEq, Prod.mk.injEq] at hg2
   exact hg2.1.symm
  ·cases hg2
 have hs3e:=hs3e hrg
 subst hs3e
 unfold dfnP at hdf
 split at hdf
 ·cases hdf
 rename_i pf hpf
 split at hdf
 ·cases hdf
 rename_i c hbody
 split at hdf
 ·cases hdf
 rename_i hname
 split at hdf
 case h_2=>cases hdf
 rename_i r1 g caps dd rest rs hcode hrs
 split at hdf
 case h_2=>cases hdf
 rename_i pre body hpre hrest
 split at hdf
 case isFalse=>cases hdf
 rename_i hle
 injection hdf with hdf
 subst hdf
 simp only[mkD] at hnp he1 he2 hcell hres hg hgf hFg
 obtain⟨⟨id,o1,o2,cap,cal,rfl,ho1,hd1,hg1,ho2,hd2,hg2,hc1,hc2,hcap⟩⟩:=dcodeP_spec hcode
 refine⟨⟨pf,hpf,by rw[hbody];rfl,by simpa using hname⟩,?_⟩
 have hlen:=hargs.length
 simp only[Array.length_toList] at hlen
 have start:Sim X ⟨pf.ntmps,[]⟩ { slots:=argSlots 0 args .lf,mem,tips,nv } { tmps:=vargs++Array.replicate (pf.ntmps-vargs.size) undef,defers:=[] }:=
  ⟨fun t=>args_ok hargs _ t,by simp;omega,rfl,hmem⟩
 refine calls_of_wp_defers hpf hbody (wp_seq ?_)
 refine (exec_ok (nt:=⟨pf.ntmps,[]⟩) hm hcall hlib n1).1 r1 pre X _ _ (.normal,s1) _ hpre he1 start hdom fun Y a1 hxY hsY hnY hdY=>?_
 show Code.wp P _ _ _ _
 refine wp_seq (wp_region ?_)
 show wpOps P #[o1,o2] _ [0,1] _ _
 have hcap':evs s1.slots (caps.map .t)=caps.map (getS s1.slots):=by
  unfold evs;rw[List.map_map];rfl
 obtain⟨fv,hrun1,hfv⟩:=makeFunc_ok (P:=P) hsY ho1 hcap (by rw[hcap'];exact hcell)
 rw[hcap'] at hfv
 refine wpOps_one (o:=o1) rfl hg1 (wp_val hrun1 ?_)
 rw[hd1]
 have hfv0:=hfv
 obtain⟨vs,rfl,hvs⟩:=hfv
 let dfd:Deferred:={ target:=.fn (.func g) vs,args:=#[] }
 have hz1:a1.tmps.size=pf.ntmps:=hsY.size
 have hle2:=hle.2
 have hev:(a1.put (some dd) (.func (.func g) #[] vs)).eval (.tmp dd)=.func (.func g) #[] vs:=by
  simp[Act.eval,Act.put]
  intro h
  omega
 have hrun2:(execOp (a1.put (some dd) (.func (.func g) #[] vs)).eval o2).run P Y.w=.ok (.defer dfd) Y.w:=by
  simp[execOp,ho2,resolve,hc1,hc2,hev,Deferred.ofValue,dfd]
 refine wpOps_one (o:=o2) rfl hg2 ?_
 unfold Oper.wp
 rw[hrun2]
 rw[Oper.upon_defer,hd2]
 show Code.wp P _ _ _ _
 let a2:Act:={ (a1.put (some dd) (.func (.func g) #[] vs)) with defers:=[dfd] }
 have ha2:({ (a1.put (some dd) (.func (.func g) #[] vs)) with defers:=dfd :: (a1.put (some dd) (.func (.func g) #[] vs)).defers } : Act).put none undef=a2:=by
  have:a1.defers=[]:=hsY.defers
  simp only[Act.put,this,a2]
 rw[ha2]
 let s1':St:={ s1 with slots:=putS s1.slots (some dd) (.clo g (caps.map (getS s1.slots))),nv:=s1.nv+1 }
 have hsY2:Sim Y ⟨pf.ntmps,[dfd]⟩ s1' a2:=by
  refine⟨fun t=>?_,?_,rfl,hsY.mem⟩
  ·show VR Y (getS (putS s1.slots (some dd) _) t) ((a1.tmps.setIfInBounds dd _).getD t undef)
   have hz:=hsY.size
   simp only at hz
   by_cases htd:t=dd
   ·subst htd
    have e1:getS (putS s1.slots (some t) (.clo g (caps.map (getS s1.slots)))) t=.clo g (caps.map (getS s1.slots)):=by
     simp[getS,putS,Tr.get_set]
    rw[e1,Array.getD_eq_getD_getElem?,Array.getElem?_setIfInBounds_self_of_lt (by omega)]
    exact hfv0
   ·have e1 : getS (putS s1.slots (some dd) (.clo g (caps.map (getS s1.slots)))) t = getS s1.slots t := by
     unfold getS putS
     simp only
     rw[Tr.get_set,if_neg (fun q=>htd q.symm)]
    rw[e1,Array.getD_eq_getD_getElem?,Array.getElem?_setIfInBounds_ne (fun q=>htd q.symm),←Array.getD_eq_getD_getElem?]
    exact hsY.slots t
  ·show (a1.tmps.setIfInBounds dd _).size = _
   rw[Array.size_setIfInBounds];exact hsY.size
 have hdomY:∀ v,s1.nv+1≤v→Y.ρ v=none:=fun v hv=>by
  cases hz:Y.ρ v with
  |none=>rfl
  |some L=>
   rcases hdY v L hz with h|h
   ·rw[hdom v (by simp at hnY;omega)] at h;cases h
   ·simp at h;omega
 refine (exec_ok (nt:=⟨pf.ntmps,[dfd]⟩) hm hcall hlib n2).1 rest body Y s1' a2 (ax2,s2) _ hrest he2 hsY2 hdomY fun Z a3 hxZ hsZ hnZ hdZ=>?_
 have fin:Leaves P pf a3.tmps (fun e w'=>∃ Y v,e=.returned v∧Y.w=w'∧Ext X Y∧VR Y r v∧MemOK Y mem' tips'∧nv≤nv'∧∀ u L,Y.ρ u=some L→X.ρ u=some L∨(nv≤u∧u<nv')) a3.defers .returning Z.w:=by
  obtain⟨ws,hws,he⟩:=opt_map hres
  simp only[Prod.mk.injEq] at he
  obtain⟨rfl,rfl,rfl,rfl⟩:=he
  have hnZ':s1.nv+1≤s2.nv:=hnZ
  have hdomZ:∀ v,s2.nv+1≤v→Z.ρ v=none:=fun v hv=>by
   cases hz:Z.ρ v with
   |none=>rfl
   |some L=>
    rcases hdZ v L hz with h|h
    ·rw[hdomY v (by omega)] at h;cases h
    ·simp at h;omega
  have hm0:MemOK Z (s2.mem++[.lf]) s2.tips:=hsZ.mem.congr (fun lv sl=>memGet_append_lf _ _ _) fun _=>rfl
  have hvsZ:All2 (V1 Z) (caps.map (getS s1.slots)) vs.toList:=hvs.mono fun _ _ h=>((h.ext hxZ).V1)
  obtain⟨pg,cg,g1,g2,g3,g4⟩:=stepF_wp hcall' hm hlib n' (fun fn hfn=>by rw[hFg] at hfn;injection hfn with hfn;rw[←hfn];exact hgf) hg Z vs hm0 hdomZ hvsZ
  rw[hsZ.defers]
  have hinv:(invoke (.fn (.func g) vs) #[]).run P Z.w=.ok (.enter g vs) Z.w:=by
   have:=callFunc_enter (P:=P) (args:=vs) (w:=Z.w) g1 (by rw[g2];rfl) g3
   simpa[invoke] using this
  refine leaves_cons (fun h=>by cases h) hinv ((callsD_of_wp g1 g2 g4).mono ?_)
  rintro e u' w' ⟨rfl,V,v,rfl,rfl,hxV,hvV,hmV,hnV,hdV⟩
  have hxX:Ext X V:=(hxY.trans hxZ).trans hxV
  have hless:MemOK V (cm.take s2.mem.length) ts:=hmV.less (fun lv sl e he=>by
   rw[memGet_take] at he
   split at he
   ·exact he
   ·cases he) fun _ h=>h
  have hs3:Sim V ⟨pf.ntmps,[dfd]⟩ { slots:=s2.slots,mem:=cm.take s2.mem.length,tips:=ts,nv:=nv3 } a3:=⟨fun t=>(hsZ.slots t).ext hxV,hsZ.size,hsZ.defers,hless⟩
  obtain⟨us,q1,q2⟩:=resAll_ok hs3 hrs hws
  refine⟨_,?_,V,_,rfl,rfl,hxX,tup_ok q2,hless,by simp at hnY;omega,fun u L hu=>?_⟩
  ·have e : results pf a3.tmps = (do
     let vs ←pf.results.mapM (resOf a3)
     pure (if h:vs.size=1 then vs[0] else .tuple vs)):=by
    unfold results
    congr 1
   rw[e,←Array.toArray_toList (xs:=pf.results),List.mapM_toArray]
   simp[q1]
  ·rcases hdV u L hu with h | h
   ·rcases hdZ u L h with h | h
    ·rcases hdY u L h with h | h
     ·exact .inl h
     ·right;simp at h;omega
    ·right;have:s1.nv+1≤u∧u<s2.nv:=h;simp at hnY;omega
   ·right;simp at hnY;omega
 rcases hax2 with rfl|rfl
 ·exact fin
 ·exact fin
end
end Go.Eng
set_option linter.unusedSectionVars false
namespace Go.Eng
open Go
def CallLe (a b:Call):Prop:=∀ f x m t n r,a f x m t n=some r→b f x m t n=some r
variable {call call':Call} {sh:Nat→Bool}
end Go.Eng
set_option linter.unusedSectionVars false
namespace Go.Eng
open Go Go.RowKit
structure Tb where
 fs:Nat→Option AFn
 O:Go.Eng.Call
instance:CoeFun Tb fun _=>Nat→Option AFn:=⟨Tb.fs⟩
instance:Coe Tb (Nat→Option AFn):=⟨Tb.fs⟩
def noCall:Go.Eng.Call:=fun _ _ _ _ _=>none
def runG (T : Tb) : Nat → Go.Eng.Call
 |0,_,_,_,_,_=>none
 | n + 1, f, args, mem, tips, nv => match T.fs f with
  |none=>T.O f args mem tips nv
  | some fn => match Nat.beq args.length fn.np with
   |false=>none
   |true=>match exec (runG T n) (fun g=>((T.fs g).map (·.sh)).getD false) n fn.body { slots:=argSlots 0 args .lf,mem,tips,nv } with
    |some (.normal,s)|some (.ret,s)=>(resAll s fn.res).map fun vs=>(tupOf vs,s.mem,s.tips,s.nv)
    |_=>none
theorem noCall_ok {P:Program} : CallOK P noCall:=fun _ _ _ _ _ _ _ _ _ h=>by cases h
def TabQ (P:Program) (lib:Nat→Option TypeId) (md:Nat→Mode) (Fs:Nat→Option AFn):Prop:=
 (∀ f fn,Fs f=some fn→fnQ P lib md f=some fn)∧∀ f d,(Fs f).isSome=true→dfnP P lib md f=some d→(Fs d.g).isSome=true
theorem runG_ok {P:Program} {T:Tb} (hO:CallOK P T.O) {lib:Nat→Option TypeId} {md:Nat→Mode} (hm:P.follows .mixedOrders=true) (hlib:∀ f T,lib f=some T→IsLib P f T) (hFs:TabQ P lib md T.fs):∀ n,CallOK P (runG T n)
 |0=>fun _ _ _ _ _ _ _ _ _ h=>by cases h
 | n + 1 => by
  intro f args mem tips nv r mem' tips' nv' h
  cases hf:T.fs f with
  |none=>simp[runG,hf] at h;exact hO f args mem tips nv r mem' tips' nv' h
  | some fn =>
   refine stepD_ok (runG_ok hO hm hlib hFs n) hm hlib (fun g gf _ hFg args mem tips nv x hx=>?_) hFs.1 hFs.2 n f args mem tips nv r mem' tips' nv' ?_
   ·match n, hx with
    |0,hx=>cases hx
    |m+1,hx=>
     refine⟨runG T m,m,runG_ok hO hm hlib hFs m,?_⟩
     simp only[runG,hFg] at hx
     simp only[stepF,hFg]
     exact hx
   simp[runG,hf] at h
   simp[stepF,hf]
   exact h
end Go.Eng
set_option linter.unusedSectionVars false
namespace Go.Sym
open Go Go.Eng
def shF (Fs:Nat→Option AFn):Nat→Bool:=fun g=>((Fs g).map (·.sh)).getD false
def Ev (Fs:Tb) (c:AC) (s:St) (x:AX×St):Prop:=∃ n0,∀ k n,n0≤k→n0≤n→exec (runG Fs k) (shF Fs) n c s=some x
def WkOK (Fs:Tb) (wk:Wk):Prop:=
 ∀ (α : Type) (ctx i:Nat) (c:AC) (s2:S2) (K:AX→S2→Option α) (r : α),wk α ctx i c s2 K=some r→∀ (ρ : VMap) (os:List (Tr AV)) (s:St),SR' ρ os s2 s→
  ∃ ax s2' ρ' s',Ev Fs c s (ax,s')∧SR' ρ' os s2' s'∧Fr ρ s2.nv s.nv ρ' s2'.nv∧s.nv≤s'.nv∧K ax s2'=some r
def RowFit (ρ : VMap) (B:Nat) (m:List (Tr E2)) (lv sl ver p:Nat) (us:List SL):Prop:=ver<B∧ρ ver=some p∧∀ u∈us,∀ r,rowOf m lv sl ver=some r→r.l.length=u.l.length
def okC:AV→Bool
 |.own _ .bor=>true
 |.own _ _=>false
 |_=>true
def okA:AV→Bool
 |.agg cs=>cs.all okC
 |x=>okC x
theorem giveCell_ok {m:List (Tr Ent)} {x y:AV} {k:List (Nat×Nat)} (h:giveCell m x=some (y,k)):okC y=true∧okA y=true:=by
 unfold giveCell at h
 split at h
 ·cases h;exact⟨rfl,rfl⟩
 ·cases h;exact⟨rfl,rfl⟩
 ·obtain ⟨z, _, e⟩ := opt_map h
  cases e;exact⟨rfl,rfl⟩
theorem giveCells_ok {m:List (Tr Ent)} : ∀ {xs ys:List AV} {k:List (Nat×Nat)},giveCells m xs=some (ys,k)→ys.all okC=true
 |[],_,_,h=>by cases h;rfl
 | x :: r, ys, k, h => by
  simp only[giveCells] at h
  split at h
  ·rename_i y k1 ys' k2 h1 h2
   cases h
   rw[List.all_cons,(giveCell_ok h1).1,giveCells_ok h2];rfl
  ·cases h
theorem gives_ok {m:List (Tr Ent)} : ∀ {xs ys:List AV} {k:List (Nat×Nat)},gives m xs=some (ys,k)→ys.all okA=true
 |[],_,_,h=>by cases h;rfl
 | x :: r, ys, k, h => by
  simp only[gives] at h
  split at h
  ·rename_i y k1 ys' k2 h1 h2
   cases h
   rw[List.all_cons,gives_ok h2,Bool.and_true]
   unfold give at h1
   split at h1
   ·obtain ⟨z, hz, e⟩ := opt_map h1
    cases e
    exact giveCells_ok (k:=z.2) hz
   ·exact (giveCell_ok h1).2
  ·cases h
theorem argsF_okA {m:List (Tr Ent)} : ∀ {xs ys:List AV},argsF m xs=some ys→ys.all okA=true
 |[],_,h=>by cases h;rfl
 | x :: r, ys, h => by
  simp only[argsF] at h
  split at h
  ·rename_i y ys' h1 h2
   cases h
   rw[List.all_cons,argsF_okA h2,Bool.and_true]
   unfold argF at h1
   split at h1
   ·obtain ⟨z, _, e⟩ := opt_map h1
    subst e
    simp[okA,okC]
   ·cases h1;rfl
   ·split at h1
    ·obtain ⟨z, _, e⟩ := opt_map h1
     subst e;rfl
    ·cases h1
   ·cases h1;rfl
   ·obtain ⟨z, _, e⟩ := opt_map h1
    subst e;rfl
  ·cases h
theorem calN_some {E:SEnv} {f:Nat} {c:Callee} (h:E.calN f=some c):E.cal f=some c∧Nat.beq c.rk 65534=false:=by
 unfold SEnv.calN at h
 cases h1:E.cal f with
 |none=>rw[h1] at h;cases h
 |some d=>
  rw[h1] at h
  cases h2:Nat.beq d.rk 65534 with
  |true=>simp only[h2] at h;cases h
  |false=>simp only[h2] at h;cases h;exact⟨rfl,h2⟩
def CalOK1 (Fs : Tb) (f : Nat) (c : Callee) : Prop :=
 ∀ a y, c.F a = some y → ∃ vs, fillP c.args (unpack c.ta a) = some (vs, []) ∧ ∀ aSz, All2 (RV ρ0 0 []) vs aSz → (Nat.beq c.rk 65534 = true → aSz.all okA = true) → ∃ n0 rv cm ts nv, (∀ n, n0 ≤ n → runG Fs n f aSz [.lf] .lf 0 = some (rv, cm, ts, nv)) ∧
  ∀ ws, fillR c.res (unpack c.tr y) = some (ws, []) → (c.rk ≠ 65535 → ∀ w, tup2 ws = some w → ∀ lv sl nvi, ∃ a', impR cm 0 0 lv sl nvi rv = some (a', []) ∧ ∀ ρ B m, RV ρ B m w a') ∧
   ∀ row lv sl ver p ws' us w,c.rk≠0→Nat.beq c.rk 65534=false→row % 65536=c.rk→row / 65536≠0→pickR c.rk lv sl ver 1 ws=some (ws',us)→(∀ u∈us,row / 65536=u.t.size)→tup2 ws'=some w→
    ∃ a',impR cm 0 row lv sl p rv=some (a',us.map fun u=>encL u.t u.l)∧∀ ρ B m,RowFit ρ B m lv sl ver p us→RV ρ B m w a'
def CalOK (Fs:Tb) (f:Nat) (c:Callee):Prop:=CalOK1 Fs f c
theorem calOK_zero {Fs:Tb} {f:Nat} {c:Callee} (h:∀ a,c.F a=none):CalOK Fs f c:=
 fun a y hy=>by grind
def LoopOK (Fs:Tb) (c:AC) (L:LoopSpec):Prop:=
 ∀ x y,L.F x=some y→∀ s2,L.T.st (unpack L.T.tys x)=some s2→∀ ρ os s,SR' ρ os s2 s→
  ∃ ax s2' ρ' s',Ev Fs (.loop c) s (ax,s')∧SR' ρ' os s2' s'∧Fr ρ s2.nv s.nv ρ' s2'.nv∧s.nv≤s'.nv∧∀ {α : Type} (K:AX→S2→Option α),outsK L.outs y K=K ax s2'
structure EnvOK (Fs:Tb) (E:SEnv):Prop where
 fns:E.fns=Fs
 cal:∀ f c,E.cal f=some c→CalOK Fs f c
 loops:∀ ctx i c L,E.loops ctx i c=some L→LoopOK Fs c L
structure RI (ρ : VMap) (nx rem:Nat) (os:List (Tr AV)) (s2:S2) (s:St) (p:Nat):Prop where
 slots:SlR ρ nx s2.mem s2.slots s.slots
 outer:All2 (SlR ρ nx s2.mem) s2.outer os
 mem:MR ρ nx s2.mem s.mem
 tips:TR ρ nx s2.tips s.tips
 ver:VOK ρ s2.nv s.nv
 pend:∀ j,j<rem→ρ (nx+j)=some (p+j)
 nv:nx+rem=s2.nv
 pn:p+rem≤s.nv
def ResOK (ρ : VMap) (nx:Nat) (os:List (Tr AV)) (s2:S2) (s:St):Res2→Res→Prop
 |.eff E,.eff e=>EffOK ρ nx (nx+1) s2 s E e
 |.all v s2',.all a m t n [] []=>∃ ρ',SR' ρ' os s2' { slots:=s.slots,mem:=m,tips:=t,nv:=n }∧RV ρ' s2'.nv s2'.mem v a∧Fr ρ (nx+1) s.nv ρ' s2'.nv∧s.nv≤n
 |_,_=>False
section
variable {Fs:Tb} {E:SEnv} {wk:Wk} {α : Type} {ρ : VMap} {nx rem p:Nat} {os:List (Tr AV)} {s2:S2} {s:St} {ctx row d:Nat} {K:Res2→Option α} {r : α}
theorem argSlots2_get:∀ (l:List V2) (i:Nat) (t:Tr V2) (k:Nat),(argSlots2 i l t).get? k=if h:i≤k∧k<i+l.length then some (l[k-i]'(by omega)) else t.get? k
 |[],i,t,k=>by rw[dif_neg (by simp)];rfl
 | x :: r, i, t, k => by
  rw[argSlots2,argSlots2_get r (i+1)]
  by_cases h1:i+1≤k∧k<i+1+r.length
  ·grind
  ·rw [dif_neg h1]
   by_cases h2:k=i
   ·subst h2
    simp[Tr.get_set]
   ·rw [dif_neg (by simp; omega)]
    rw[Tr.get_set,if_neg (Ne.symm h2)]
theorem argSlots_rel {B:Nat} {m:List (Tr E2)} {vs:List V2} {aSz:List AV} (h:All2 (RV ρ B m) vs aSz):SlR ρ B m (argSlots2 0 vs .lf) (argSlots 0 aSz .lf):=by
 intro k v hk
 rw[argSlots2_get] at hk
 rw[argSlots_get]
 split at hk
 ·subst_vars
  obtain⟨b,hb,hr⟩:=h.get (k-0) _ (List.getElem?_eq_getElem (by omega))<;>grind
 simp_all
theorem mget_snoc {m:List (Tr E2)} {lv sl:Nat} : mget (m++[.lf]) lv sl=mget m lv sl:=by
 unfold mget
 grind[Tr.get?]
theorem memGet_snoc {m:List (Tr Ent)} {lv sl:Nat} : memGet (m++[.lf]) lv sl=memGet m lv sl:=by
 unfold memGet
 grind[Tr.get?]
theorem rowOf_snoc {m:List (Tr E2)} {lv sl ver:Nat} : rowOf (m++[.lf]) lv sl ver=rowOf m lv sl ver:=by
 unfold rowOf;rw[mget_snoc]
theorem stab_snoc {B:Nat} {m:List (Tr E2)} : Stab B m (m++[.lf]):=fun _ _ _ r _ h=>⟨r,by rw[rowOf_snoc] at h;exact h,rfl⟩
theorem mget_take {m:List (Tr E2)} {k lv sl:Nat} {e:E2} (h:mget (m.take k) lv sl=some e):lv<k∧mget m lv sl=some e:=by
 grind[mget]
theorem memGet_take {m:List (Tr Ent)} {k lv sl:Nat} (h:lv<k):memGet (m.take k) lv sl=memGet m lv sl:=by
 grind[memGet]
theorem stab_take {B k:Nat} {m:List (Tr E2)} : Stab B m (m.take k):=fun _ _ _ r _ h=>⟨r,rowOf_iff.2 (mget_take (rowOf_some h)).2,rfl⟩
theorem MR.take {B k:Nat} {m2:List (Tr E2)} {m:List (Tr Ent)} (h:MR ρ B m2 m):MR ρ B (m2.take k) (m.take k):=by
 refine⟨by simp[h.len],fun lv sl e2 he=>?_⟩
 obtain⟨h1,h2⟩:=mget_take he
 obtain⟨e,h3,h4⟩:=h.ents lv sl e2 h2
 exact⟨e,by rw[memGet_take h1];exact h3,RE.mono (Nat.le_refl _) (fun _ _=>rfl) (fun _ _=>RC.move stab_take (Nat.le_refl _) fun _ _=>rfl) h4⟩
theorem MR.snoc {B:Nat} {m2:List (Tr E2)} {m:List (Tr Ent)} (h:MR ρ B m2 m):MR ρ B (m2++[.lf]) (m++[.lf]):=by
 refine⟨by simp[h.len],fun lv sl e2 he=>?_⟩
 rw[mget_snoc] at he
 obtain⟨e,h3,h4⟩:=h.ents lv sl e2 he
 exact⟨e,by rw[memGet_snoc];exact h3,RE.mono (Nat.le_refl _) (fun _ _=>rfl) (fun _ _=>RC.move stab_snoc (Nat.le_refl _) fun _ _=>rfl) h4⟩
theorem MR.ren {ρ':VMap} {B:Nat} {m2:List (Tr E2)} {m:List (Tr Ent)} (h:MR ρ B m2 m) (hρ : ∀ v,v<B→ρ' v = ρ v):MR ρ' B m2 m:=by
 refine⟨h.len,fun lv sl e2 he=>?_⟩
 obtain⟨e,h3,h4⟩:=h.ents lv sl e2 he
 exact⟨e,h3,RE.mono (Nat.le_refl _) hρ (fun _ _=>RC.move (Stab.refl _ _) (Nat.le_refl _) hρ) h4⟩
theorem all_notTup {B:Nat} {m:List (Tr E2)} : ∀ {vs:List V2} {aSz:List AV},vs.all V2.noTup=true→All2 (RV ρ B m) vs aSz→aSz.all notTup=true
 |[],[],_,_=>rfl
 |v :: vs,a :: aSz,h,ha=>by
  rw[List.all_cons,Bool.and_eq_true] at h
  rw[List.all_cons,all_notTup h.2 ha.2,Bool.and_true]
  cases v with
  |c x=>exact (RC.cell ha.1).2.2
  |agg cs=>obtain⟨as',e,_⟩:=ha.1;rw[e];rfl
  |clo f cs=>obtain⟨as',e,_⟩:=ha.1;rw[e];rfl
  |tup vs=>cases h.1
 |[],_ :: _,_,h=>h.elim
 |_ :: _,[],_,h=>h.elim
theorem all2_slr_mono {ρ':VMap} {B B':Nat} {m m':List (Tr E2)} (hs:Stab B m m') (hB:B≤B') (hρ : ∀ v,v<B→ρ' v = ρ v) {ts:List (Tr V2)} (h:All2 (SlR ρ B m) ts os):All2 (SlR ρ' B' m') ts os:=
 h.mono fun _ _=>SlR.move hs hB hρ
section
variable {B:Nat} {m2:List (Tr E2)} {m:List (Tr Ent)} (hm:MR ρ B m2 m)
def Brought (ρ : VMap) (B top:Nat) (m2:List (Tr E2)) (lv sl ver p:Nat) (us:List SL) (Q:VMap→Nat→List (Tr E2)→Prop):Prop:=
 ∀ ρ' B' m',RowFit ρ' B' m' lv sl ver p us→(∀ v,v<B→ρ' v = ρ v)→B≤B'→Stab B (m2.take top) m'→Q ρ' B' m'
theorem RowFit.left {ρ : VMap} {B:Nat} {m:List (Tr E2)} {lv sl ver p:Nat} {us vs:List SL} (h:RowFit ρ B m lv sl ver p (us++vs)):RowFit ρ B m lv sl ver p us:=⟨h.1,h.2.1,fun u hu=>h.2.2 u (List.mem_append_left _ hu)⟩
theorem RowFit.right {ρ : VMap} {B:Nat} {m:List (Tr E2)} {lv sl ver p:Nat} {us vs:List SL} (h:RowFit ρ B m lv sl ver p (us++vs)):RowFit ρ B m lv sl ver p vs:=⟨h.1,h.2.1,fun u hu=>h.2.2 u (List.mem_append_right _ hu)⟩
theorem impCell_own {top k lv sl ver:Nat} (hn:k≠row % 65536) {els:List (List D)} {o:Own} (ho:o≠.bor):∃ a',impCell m top row k lv sl ver (.own els o)=some (a',[])∧(keepOwn top row=true→a'=.own els o)∧(a'=.own els o∨a'=.d (.sl els)):=by
 have h0:Nat.beq k (row % 65536)=false:=beq_false.2 hn
 cases o with
 |bor=>grind
 |full=>
  grind[keepOwn,impCell]
 |tip=>
  simp[impCell]<;>grind
theorem impO_ok {top k lv sl ver:Nat} {x y:Cell} {a:AV} (hr:row≠0) (hn:k≠row % 65536) (h:impO m2 top x=some y) (hh:impHi top x=false) (hx:RC ρ B m2 x a):∃ a',impCell m top row k lv sl ver a=some (a',[])∧RC ρ B (m2.take top) y a':=by
 have keep:∀ {els:List (List D)} {o:Own} {z:Cell},o≠.bor→RC ρ B (m2.take top) z (.own els o)→Nat.beq top 0=false→∃ a',impCell m top row k lv sl ver (.own els o)=some (a',[])∧RC ρ B (m2.take top) z a':=by
  intro els o z ho hz ht
  obtain⟨a',h1,h2,_⟩:=impCell_own (m:=m) (top:=top) (lv:=lv) (sl:=sl) (ver:=ver) hn (els:=els) ho
  rw[h2 (by simp only[keepOwn,beq_false.2 hr,ht];rfl)] at h1
  exact⟨_,h1,hz⟩
 have lose:∀ {els:List (List D)} {o:Own} {z:Cell},o≠.bor→(RC ρ B (m2.take top) z (.d (.sl els))∧RC ρ B (m2.take top) z (.own els o))→Nat.beq top 0=true→∃ a',impCell m top row k lv sl ver (.own els o)=some (a',[])∧RC ρ B (m2.take top) z a':=by
  intro els o z ho hz ht
  obtain⟨a',h1,_,h2⟩:=impCell_own (m:=m) (top:=top) (lv:=lv) (sl:=sl) (ver:=ver) hn (els:=els) ho
  refine⟨a',h1,?_⟩
  rcases h2 with rfl|rfl
  ·exact hz.2
  ·exact hz.1
 unfold impO at h
 split at h
 ·rename_i b
  have hx':=(els_nil (m:=m) hx).2
  split at h
  ·rename_i ht
   cases h
   rcases hx' with rfl|⟨o,ho,rfl⟩
   ·exact⟨_,rfl,.inl rfl⟩
   ·exact lose ho ⟨.inl rfl,.inr ⟨_,ho,rfl⟩⟩ ht
  ·rename_i ht
   cases h
   rcases hx' with rfl|⟨o,ho,rfl⟩
   ·refine ⟨_, rfl, ?_⟩
    cases b with
    |false=>exact .inl rfl
    |true=>cases hx
   ·refine keep ho ?_ ht
    cases b with
    |false=>exact .inr ⟨o,ho,rfl⟩
    |true=>exact hx
 ·split at h
  ·rename_i ht
   cases h
   obtain⟨h1,⟨h2,rfl⟩|⟨u,h2,rfl⟩⟩:=hx
   ·exact lose (fun e=>by cases e) ⟨.inl rfl,.inr ⟨_,(fun e=>by cases e),rfl⟩⟩ ht
   ·exact lose (fun e=>by cases e) ⟨.inl rfl,.inr ⟨_,(fun e=>by cases e),rfl⟩⟩ ht
  ·rename_i ht
   cases h
   obtain⟨h1,⟨h2,rfl⟩|⟨u,h2,rfl⟩⟩:=hx
   ·exact keep (fun e=>by cases e) ⟨h1,.inl ⟨h2,rfl⟩⟩ ht
   ·exact keep (fun e=>by cases e) ⟨h1,.inr ⟨u,h2,rfl⟩⟩ ht
 ·subst hx
  split at h
  ·rename_i ht
   cases h
   exact lose (fun e=>by cases e) ⟨.inl rfl,.inr ⟨_,(fun e=>by cases e),rfl⟩⟩ ht
  ·rename_i ht
   cases h
   exact keep (fun e=>by cases e) rfl ht
 ·rename_i hn1 hn2 hn3
  unfold imp2 at h
  split at h
  ·cases h;cases hx;exact⟨_,rfl,rfl⟩
  ·cases h;cases hx;exact⟨_,rfl,rfl⟩
  ·cases h;cases hx;exact⟨_,rfl,rfl⟩
  ·cases h;cases hx;exact⟨_,rfl,rfl⟩
  ·exact absurd rfl (hn1 _)
  ·cases h
  ·rename_i t l o hne
   cases h
   have ho:o=.d:=by
    cases o with
    |d=>rfl
    |bor=>exact absurd rfl hne
    |full=>exact absurd rfl (hn3 _ _)
    |app v=>exact absurd rfl (hn2 _ _ _)
   subst ho
   rcases hx with rfl|⟨o,ho,rfl⟩
   ·exact⟨_,rfl,.inl rfl⟩
   ·cases ht : Nat.beq top 0 with
    |true=>exact lose ho ⟨.inl rfl,.inr ⟨_,ho,rfl⟩⟩ ht
    |false=>exact keep ho (.inr ⟨o,ho,rfl⟩) ht
  ·rename_i lv' sl' ver' t
   have hb:Nat.ble top lv'=false:=hh
   rw[hb] at h
   cases h
   obtain⟨hv,u,n,hu,rfl,hn⟩:=hx
   refine⟨_,by simp only[impCell,hb],hv,u,n,hu,rfl,fun r hr=>hn r ?_⟩
   have h1:=rowOf_some hr
   refine rowOf_iff.2 ?_
   unfold mget at h1 ⊢
   rw[List.getElem?_take] at h1
   split at h1
   ·exact h1
   ·cases h1
  ·rename_i lv' sl' ver' t off len
   have hb:Nat.ble top lv'=false:=hh
   rw[hb] at h
   cases h
   obtain⟨hv,u,hu,rfl,hn⟩:=hx
   refine⟨_,by simp only[impCell,hb],hv,u,hu,rfl,fun r hr=>hn r ?_⟩
   have h1:=rowOf_some hr
   refine rowOf_iff.2 ?_
   unfold mget at h1 ⊢
   rw[List.getElem?_take] at h1
   split at h1
   ·exact h1
   ·cases h1
  ·split at h
   ·rename_i hb
    cases h
    obtain⟨hv,u,hu,rfl⟩:=hx
    exact⟨_,by simp only[impCell,hb],hv,u,hu,rfl⟩
   ·cases h
  ·cases h
include hm
theorem impP1_ok {top rk k lv sl ver p:Nat} {e:Option Ty} {x y:Cell} {us:List SL} {a:AV} (hr:row≠0) (hrk:row % 65536=rk) (h2:row / 65536≠0) (h:impP1 m2 top rk lv sl ver e k x=some (y,us)) (hx:RC ρ B m2 x a) (hu:∀ u∈us,row / 65536=u.t.size) :
  ∃ a',impCell m top row k lv sl p a=some (a',us.map fun u=>encL u.t u.l)∧Brought ρ B top m2 lv sl ver p us fun ρ' B' m'=>RC ρ' B' m' y a':=by
 have hrow:Nat.beq row 0=false:=beq_false.2 hr
 unfold impP1 at h
 split at h
 ·rename_i hk
  have hk:=beq_true.1 hk
  subst hk
  have hkk:Nat.beq k (row % 65536)=true:=beq_true.2 hrk.symm
  have at_:∀ {lv' sl' ver' r u},rowOf m2 lv' sl' ver'=some r→ρ ver'=some u→Eng.rowAt m lv' sl' u=some (encL r.t r.l):=by
   intro lv' sl' ver' r u hr hu
   obtain⟨e,g1,g2⟩:=hm.ents _ _ _ (rowOf_some hr)
   obtain⟨_,u',g3,rfl⟩:=g2
   unfold Eng.rowAt<;>simp_all
  split at h
  ·cases e with
   |none=>cases h
   |some t=>
    cases h
    subst hx
    have hs:(!Nat.beq (row / 65536) 0)=true:=by rw[beq_false.2 h2];rfl
    have hu:=hu _ (List.mem_singleton.2 rfl)
    refine⟨.ref lv sl p 0 0 (row / 65536),by simp only[impCell,hs,hkk,Bool.and_true];rfl,fun ρ' B' m' hf _ _ _=>⟨hf.1,p,0,hf.2.1,by rw[hu],fun r hr=>?_⟩⟩
    have:=hf.2.2 _ (List.mem_singleton.2 rfl) r hr<;>grind
  ·rename_i lv' sl' ver' t
   split at h
   ·rename_i r hb hr
    split at h
    ·rename_i hsz
     have hsz:=beq_true.1 hsz
     cases h
     have he:=els_ref hm hx hr
     obtain⟨hv,u,n,hu',rfl,hn⟩:=hx
     refine⟨.ref lv sl p 0 n t.size,?_,fun ρ' B' m' hf _ _ _=>⟨hf.1,p,n,hf.2.1,by rw[hsz],fun r' hr'=>?_⟩⟩
     ·simp only[impCell,hb,he,hrow,hkk,at_ hr hu']<;>grind
     ·rw[hf.2.2 _ (List.mem_singleton.2 rfl) r' hr']<;>grind
    grind
   grind
  ·rename_i lv' sl' ver' t off len
   split at h
   ·rename_i r hb hr
    split at h
    ·rename_i hsz
     have hsz:=beq_true.1 hsz
     cases h
     have hle:=hx.2.choose_spec.2.2 r hr
     have he:=els_refp hm hx hr hle
     obtain⟨hv,u,hu',rfl,hn⟩:=hx
     refine⟨.ref lv sl p 0 len t.size,?_,fun ρ' B' m' hf _ _ _=>⟨hf.1,p,len,hf.2.1,by rw[hsz],fun r' hr'=>?_⟩⟩
     ·simp only[impCell,hb,he,hrow,hkk,at_ hr hu']<;>grind
     ·rw[hf.2.2 _ (List.mem_singleton.2 rfl) r' hr',List.length_take,List.length_drop]<;>omega
    grind
   grind
  grind
 ·rename_i hk
  have hk:=beq_false.1 hk
  split at h
  ·cases h
  ·rename_i hh
   obtain⟨y',h1,h⟩:=Option.map_eq_some_iff.1 h
   cases h
   obtain⟨a',g1,g2⟩:=impO_ok (m:=m) (k:=k) (lv:=lv) (sl:=sl) (ver:=p) hr (by rw[hrk];exact hk) h1 hh hx
   exact⟨a',g1,fun ρ' B' m' _ hρ hB hs=>g2.move hs hB hρ⟩
theorem impPs_ok {top rk lv sl ver p:Nat} {e:Option Ty} (hr:row≠0) (hrk:row % 65536=rk) (h2:row / 65536≠0):∀ {k:Nat} {xs ys:List Cell} {us:List SL} {aSz:List AV},impPs m2 top rk lv sl ver e k xs=some (ys,us)→All2 (RC ρ B m2) xs aSz→(∀ u∈us,row / 65536=u.t.size)→
  ∃ as',impCells m top row lv sl p k aSz=some (as',us.map fun u=>encL u.t u.l)∧Brought ρ B top m2 lv sl ver p us fun ρ' B' m'=>All2 (RC ρ' B' m') ys as'
 |k,[],ys,us,aSz,h,ha,_=>by
  cases h
  match aSz,ha with
  |[],_=>exact⟨[],rfl,fun _ _ _ _ _ _ _=>trivial⟩
 | k, x :: xs, ys, us, aSz, h, ha, hu => by
  simp[impPs] at h
  split at h
  ·rename_i y u ys' us' h1 h3
   cases h
   match aSz,ha with
   |a :: aSz,ha=>
    obtain⟨a',g1,g2⟩:=impP1_ok hm (p:=p) hr hrk h2 h1 ha.1 fun v hv=>hu v (List.mem_append_left _ hv)
    obtain⟨as',g3,g4⟩:=impPs_ok (p:=p) hr hrk h2 h3 ha.2 fun v hv=>hu v (List.mem_append_right _ hv)
    refine⟨a' :: as',by simp only[impCells,g1,g3,List.map_append],fun ρ' B' m' hf h4 h5 h6=>⟨g2 ρ' B' m' hf.left h4 h5 h6,g4 ρ' B' m' hf.right h4 h5 h6⟩⟩
  grind
theorem impP1s_ok {top rk k lv sl ver p:Nat} {e:Option Ty} (hr:row≠0) (hrk:row % 65536=rk) (h2:row / 65536≠0) {b:Bool} {xs ys:List Cell} {us:List SL} {a:AV} (h:impPs m2 top rk lv sl ver e k xs=some (ys,us)) (ha:R1 ρ B m2 (b,xs) a) (hu:∀ u∈us,row / 65536=u.t.size) :
  ∃ a',imp1 m top row lv sl p k a=some (a',us.map fun u=>encL u.t u.l)∧Brought ρ B top m2 lv sl ver p us fun ρ' B' m'=>R1 ρ' B' m' (b,ys) a':=by
 cases b with
 |true=>
  obtain⟨aSz,rfl,ha⟩:=ha
  obtain⟨as',g1,g2⟩:=impPs_ok hm (p:=p) hr hrk h2 h ha hu
  exact⟨.agg as',by simp only[imp1,g1,Option.map_some],fun ρ' B' m' hf h4 h5 h6=>⟨as',rfl,g2 ρ' B' m' hf h4 h5 h6⟩⟩
 | false =>
  obtain⟨c,rfl,ha⟩:=ha
  simp[impPs] at h
  split at h
  ·rename_i y u ys' us' h1 h3
   cases h3
   simp at h
   obtain⟨rfl,rfl⟩:=h
   obtain⟨a',g1,g2⟩:=impP1_ok hm (p:=p) hr hrk h2 h1 ha hu
   refine⟨a',?_,fun ρ' B' m' hf h4 h5 h6=>⟨y,rfl,g2 ρ' B' m' hf h4 h5 h6⟩⟩
   have hc:=RC.cell ha
   cases a<;>first|exact g1|cases hc.2.1
  grind
theorem impPt_ok {top rk lv sl ver p:Nat} {e:Option Ty} (hr:row≠0) (hrk:row % 65536=rk) (h2:row / 65536≠0):∀ {k:Nat} {vs ws:List (Bool×List Cell)} {us:List SL} {aSz:List AV},impPr m2 top rk lv sl ver e k vs=some (ws,us)→All2 (R1 ρ B m2) vs aSz→(∀ u∈us,row / 65536=u.t.size)→
  ∃ as',impTup m top row lv sl p k aSz=some (as',us.map fun u=>encL u.t u.l)∧ws.length=vs.length∧Brought ρ B top m2 lv sl ver p us fun ρ' B' m'=>All2 (R1 ρ' B' m') ws as'
 |k,[],ws,us,aSz,h,ha,_=>by
  cases h
  match aSz,ha with
  |[],_=>exact⟨[],rfl,rfl,fun _ _ _ _ _ _ _=>trivial⟩
 | k, (b, x) :: xs, ws, us, aSz, h, ha, hu => by
  simp[impPr] at h
  split at h
  ·rename_i y u ys' us' h1 h3
   cases h
   match aSz,ha with
   |a :: aSz,ha=>
    obtain⟨a',g1,g2⟩:=impP1s_ok hm (p:=p) hr hrk h2 h1 ha.1 fun v hv=>hu v (List.mem_append_left _ hv)
    obtain⟨as',g3,gl,g4⟩:=impPt_ok (p:=p) hr hrk h2 h3 ha.2 fun v hv=>hu v (List.mem_append_right _ hv)
    refine⟨a' :: as',by simp only[impTup,g1,g3,List.map_append],by rw[List.length_cons,List.length_cons,gl],fun ρ' B' m' hf h4 h5 h6=>⟨g2 ρ' B' m' hf.left h4 h5 h6,g4 ρ' B' m' hf.right h4 h5 h6⟩⟩
  grind
theorem impPr_ok {top rk lv sl ver p:Nat} {e:Option Ty} (hr:row≠0) (hrk:row % 65536=rk) (h2:row / 65536≠0) {vs ws:List (Bool×List Cell)} {us:List SL} {w:V2} {aSz:List AV} (h:impPr m2 top rk lv sl ver e 1 vs=some (ws,us)) (ht:tup2 ws=some w) (ha:All2 (R1 ρ B m2) vs aSz) (hu:∀ u∈us,row / 65536=u.t.size) :
  ∃ a',impR m top row lv sl p (tupOf aSz)=some (a',us.map fun u=>encL u.t u.l)∧Brought ρ B top m2 lv sl ver p us fun ρ' B' m'=>RV ρ' B' m' w a':=by
 match vs,aSz,ha with
 |[],[],ha=>
  cases h
  cases ht
  exact⟨.tup [],rfl,fun _ _ _ _ _ _ _=>⟨[],rfl,trivial⟩⟩
 | [(b, x)], [a], ha =>
  simp[impPr] at h
  split at h
  ·rename_i y u ys' us' h1 h3
   cases h3
   simp at h
   obtain⟨rfl,rfl⟩:=h
   obtain⟨a',g1,g2⟩:=impP1s_ok hm (p:=p) hr hrk h2 h1 ha.1 hu
   refine⟨a',?_,fun ρ' B' m' hf h4 h5 h6=>?_⟩
   ·have hn := R1.notTup ha.1
    cases a<;>first|exact g1|cases hn
   ·have g2 := g2 ρ' B' m' hf h4 h5 h6
    cases b with
    |true=>
     obtain⟨as',rfl,g3⟩:=g2
     cases ht
     exact⟨as',rfl,g3⟩
    |false=>
     obtain⟨c,rfl,g3⟩:=g2
     cases ht
     exact g3
  grind
 | v :: v' :: vs, a :: a' :: aSz, ha =>
  obtain⟨as',g1,gl,g2⟩:=impPt_ok hm (p:=p) hr hrk h2 h ha hu
  refine⟨.tup as',by simp only[tupOf,impR,g1,Option.map_some],fun ρ' B' m' hf h4 h5 h6=>?_⟩
  match ws,gl,ht with
  |x :: y :: zs,_,ht=>
   cases ht
   exact⟨as',rfl,g2 ρ' B' m' hf h4 h5 h6⟩
end
theorem keysV_ok {B:Nat} {m:List (Tr E2)} : ∀ {vs:List V2} {aSz:List AV},All2 (RV ρ B m) vs aSz→KeysR ρ (vs.flatMap keyV) (aSz.flatMap keysIn)
 |[],[],_=>KeysR.nil
 |_ :: _,_ :: _,h=>by
  exact (keyV_ok h.1).append (keysV_ok h.2)
 |[],_ :: _,h=>h.elim
 |_ :: _,[],h=>h.elim
theorem callN_ok (hE:EnvOK Fs E) (hi:RI ρ nx rem os s2 s p) (hrem:0<rem) {f:Nat} {vs:List V2} {aSz:List AV} (hsh:shF Fs f=false) (h:callN E s2 row d nx f vs K=some r) (has:All2 (RV ρ nx s2.mem) vs aSz) :
  ∃ r2 e,(∃ n0,∀ n,n0≤n→doCall (runG Fs n) (shF Fs f) row s (lvQ s.mem.length d) d p f aSz=some e)∧ResOK ρ nx os s2 s r2 e∧K r2=some r:=by
 obtain⟨c,hc,h⟩:=optK_some h
 obtain⟨hc,hkn⟩:=calN_some hc
 obtain⟨⟨ds,ks,bs⟩,ha,h⟩:=optK_some h
 obtain⟨x,hx,h⟩:=optK_some h
 obtain⟨hb,h⟩:=chkAll_some h
 obtain⟨y,hy,h⟩:=bind_some h
 split at h
 ·rename_i ws hws
  obtain⟨as',vs',g1,g2,g3⟩:=args2_ok hi.mem ha has hb
  obtain⟨vs1,g4,g5⟩:=hE.cal f c hc x y hy
  rw[unpack_pack hx] at g4
  have g2':=g2 []
  rw[List.append_nil,g4] at g2'
  injection g2' with g2';injection g2' with g2' _;subst g2'
  obtain⟨n0,rv,cm,ts,nv,g6,g7⟩:=g5 as' g3 (fun q=>by rw[hkn] at q;cases q)
  obtain⟨g7,g7'⟩:=g7 ws hws
  split at h
  ·rename_i hrow
   have hrow:=Nat.eq_of_beq_eq_true hrow
   split at h
   ·cases h
   rename_i h65
   obtain⟨w,hw,h⟩:=optK_some h
   obtain⟨a',g8,g9⟩:=g7 (beq_false.1 h65) w hw (lvQ s.mem.length d) d p
   refine⟨_,.eff { val:=a',upd:=frees s.mem ks++[],tip:=[],rd:=aSz.flatMap keysIn },⟨n0,fun n hn=>?_⟩,?_,h⟩
   ·rw [hsh, hrow]
    simp only[doCall,g1,g6 n hn,g8,rowUpd]
   ·rw [List.append_nil]
    exact .of_mem hi.mem hi.tips (by omega) (stab_frees (ks:=ks)) updR_frees (g9 _ _ _) (keysV_ok has)
  ·split at h
   ·rename_i ws' hq hp
    rw[Bool.and_eq_true,Bool.and_eq_true] at hq
    obtain⟨⟨hq1,hq2⟩,hq3⟩:=hq
    have hq1:=Nat.eq_of_beq_eq_true hq1
    have hq2:c.rk≠0:=by intro e;rw[e] at hq2;cases hq2
    have hq3:row / 65536≠0:=by intro e;rw[e] at hq3;cases hq3
    obtain⟨w,hw,h⟩:=optK_some h
    obtain⟨a',g8,g9⟩:=g7' row (lvQ s2.mem.length d) d nx p ws' [] w hq2 hkn hq1 hq3 hp (fun v hv=>by cases hv) hw
    rw[hi.mem.len] at g8
    refine⟨_,.eff { val:=a',upd:=frees s.mem ks++[],tip:=[],rd:=aSz.flatMap keysIn },⟨n0,fun n hn=>?_⟩,?_,h⟩
    ·rw [hsh]
     simp only[doCall,g1,g6 n hn,g8,rowUpd,List.map_nil]
    ·have hnx : ρ nx = some p := hi.pend 0 hrem
     rw[List.append_nil]
     exact .of_mem hi.mem hi.tips (B':=nx+1) (by omega) (stab_frees (ks:=ks)) updR_frees (g9 _ _ _ ⟨by omega,hnx,fun v hv=>by cases hv⟩) (keysV_ok has)
   ·rename_i ws' u hq hp
    rw[Bool.and_eq_true,Bool.and_eq_true] at hq
    obtain⟨⟨hq1,hq2⟩,hq3⟩:=hq
    have hq1:=Nat.eq_of_beq_eq_true hq1
    have hq2:c.rk≠0:=by intro e;rw[e] at hq2;cases hq2
    have hq3:row / 65536≠0:=by intro e;rw[e] at hq3;cases hq3
    split at h
    ·rename_i hsz
     have hsz:=Nat.eq_of_beq_eq_true hsz
     obtain⟨w,hw,h⟩:=optK_some h
     obtain⟨a',g8,g9⟩:=g7' row (lvQ s2.mem.length d) d nx p ws' [u] w hq2 hkn hq1 hq3 hp (fun v hv=>by rw[List.mem_singleton.1 hv];exact hsz) hw
     rw[hi.mem.len] at g8
     refine⟨_,.eff { val:=a',upd:=frees s.mem ks++[(lvQ s.mem.length d,d,some (.row p (encL u.t u.l)))],tip:=[],rd:=aSz.flatMap keysIn },⟨n0,fun n hn=>?_⟩,?_,h⟩
     ·rw [hsh]
      simp only[doCall,g1,g6 n hn,g8,rowUpd,List.map_cons,List.map_nil]
     ·have hnx : ρ nx = some p := hi.pend 0 hrem
      rw[←hi.mem.len]
      refine .of_mem hi.mem hi.tips (B':=nx+1) (by omega) (stab_new (.inl (Nat.le_refl _))) (updR_frees.append (updR_one ⟨by omega,p,hnx,rfl⟩)) (g9 _ _ _ ⟨by omega,hnx,fun v hv r' hr'=>?_⟩) (keysV_ok has)
      rw[List.mem_singleton.1 hv]
      rw[updM_append] at hr'
      simp only[updM] at hr'
      have:=rowOf_some hr'
      rw[mget_mset] at this
      split at this
      ·injection this with this
       injection this with _ h1 h2
       obtain⟨t',l'⟩:=r'
       simp only at h1 h2
       subst h1
       cases h2
       rfl
      ·have h1 := rowOf_frees (rowOf_iff.2 this)
       obtain⟨e,_,hlt,_⟩:=hi.mem.ents _ _ _ (rowOf_some h1)
       omega
    ·cases h
   ·cases h
 ·cases h
theorem callG_ok (hE:EnvOK Fs E) (hi:RI ρ nx rem os s2 s p) {f:Nat} {vs:List V2} {aSz:List AV} (h:callG E s2 f vs K=some r) (has:All2 (RV ρ nx s2.mem) vs aSz) :
  ∃ r2 e,(∃ n0,∀ n,n0≤n→doGive (runG Fs n) s p f aSz=some e)∧ResOK ρ nx os s2 s r2 e∧K r2=some r:=by
 obtain⟨c,hc,h⟩:=optK_some h
 split at h
 ·rename_i h65
  simp at h65
  obtain⟨⟨ds,ks,bs⟩,ha,h⟩:=optK_some h
  obtain⟨x,hx,h⟩:=optK_some h
  obtain⟨hb,h⟩:=chkAll_some h
  obtain⟨y,hy,h⟩:=bind_some h
  split at h
  ·rename_i ws hws
   obtain⟨as',vs',g1,g2,g3⟩:=argsG_ok hi.mem ha has hb
   obtain⟨vs1,g4,g5⟩:=hE.cal f c hc x y hy
   rw[unpack_pack hx] at g4
   have g2':=g2 []
   rw[List.append_nil,g4] at g2'
   cases g2'
   obtain⟨n0,rv,cm,ts,nv,g6,g7⟩:=g5 as' g3 (fun _=>gives_ok g1)
   obtain⟨w,hw,h⟩:=optK_some h
   obtain⟨a',g8,g9⟩:=(g7 ws hws).1 (fun e=>by rw[e] at h65;cases h65) w hw 0 0 p
   refine⟨_,.eff { val:=a',upd:=frees s.mem ks,tip:=[],rd:=aSz.flatMap keysIn },⟨n0,fun n hn=>?_⟩,?_,h⟩
   ·simp[doGive,g1,g6 n hn,g8]
   ·exact .of_mem hi.mem hi.tips (by omega) (stab_frees (ks:=ks)) updR_frees (g9 _ _ _) (keysV_ok has)
  grind
 grind
theorem callL_ok (hE:EnvOK Fs E) (hi:RI ρ nx rem os s2 s p) {f:Nat} {vs:List V2} {aSz:List AV} (h:callL E s2 f vs K=some r) (has:All2 (RV ρ nx s2.mem) vs aSz) :
  ∃ r2 e,(∃ n0,∀ n,n0≤n→doLend (runG Fs n) s p f aSz=some e)∧ResOK ρ nx os s2 s r2 e∧K r2=some r:=by
 obtain⟨c,hc,h⟩:=optK_some h
 obtain⟨hc,hkn⟩:=calN_some hc
 split at h
 ·rename_i h65
  simp at h65
  obtain⟨⟨ds,bs⟩,ha,h⟩:=optK_some h
  obtain⟨x,hx,h⟩:=optK_some h
  obtain⟨hb,h⟩:=chkAll_some h
  obtain⟨y,hy,h⟩:=bind_some h
  split at h
  ·rename_i ws hws
   obtain⟨as',vs',g1,g2,g3⟩:=argsL_ok hi.mem ha has hb
   obtain⟨vs1,g4,g5⟩:=hE.cal f c hc x y hy
   rw[unpack_pack hx] at g4
   have g2':=g2 []
   rw[List.append_nil,g4] at g2'
   cases g2'
   obtain⟨n0,rv,cm,ts,nv,g6,g7⟩:=g5 as' g3 (fun q=>by rw[hkn] at q;cases q)
   obtain⟨w,hw,h⟩:=optK_some h
   obtain⟨a',g8,g9⟩:=(g7 ws hws).1 (fun e=>by rw[e] at h65;cases h65) w hw 0 0 p
   refine⟨_,.eff { val:=a',upd:=[],tip:=[],rd:=aSz.flatMap keysIn },⟨n0,fun n hn=>?_⟩,?_,h⟩
   ·simp[doLend,g1,g6 n hn,g8]
   ·exact .of_mem (us2:=[]) (us:=[]) hi.mem hi.tips (by omega) (Stab.refl _ _) trivial (g9 _ _ _) (keysV_ok has)
  grind
 grind
theorem callK_ok (hwk : WkOK Fs wk) (hE : EnvOK Fs E) (hi : RI ρ nx rem os s2 s p) (hrem : 0 < rem) {f : Nat} {vs : List V2} {aSz : List AV} (h : callK E wk ctx s2 row d nx f vs K = some r) (has : All2 (RV ρ nx s2.mem) vs aSz) :
  ∃ r2 e,(∃ n0,∀ n,n0≤n→doCall (runG Fs n) (shF Fs f) row s (lvQ s.mem.length d) d p f aSz=some e)∧ResOK ρ nx os s2 s r2 e∧K r2=some r:=by
 unfold callK at h
 split at h
 ·rename_i fn hf
  rw[hE.fns] at hf
  have hsh:shF Fs f=fn.sh:=by simp[shF,hf]
  split at h
  ·rename_i hfs
   rw[hfs] at hsh
   exact callN_ok hE hi hrem hsh h has
  ·rename_i hfs
   rw[hfs] at hsh
   split at h
   ·cases h
   ·rename_i hnp
    rw[Bool.and_eq_true] at hnp
    obtain⟨hnp,hnt⟩:=hnp
    have hnt:=all_notTup hnt has
    let ρc:VMap:=fun v=>if v<nx then ρ v else some (s.nv+(v-nx))
    have hρc:∀ v,v<nx→ρc v = ρ v:=fun v hv=>if_pos hv
    have hle:nx≤s2.nv:=by have:=hi.nv;omega
    have start : SR' ρc (s.slots :: os) { slots := argSlots2 0 vs .lf, outer := loose s2.slots :: s2.outer, mem := s2.mem ++ [.lf], tips := s2.tips, nv := nx } { slots := argSlots 0 aSz .lf, mem := s.mem ++ [.lf], tips := s.tips, nv := s.nv } := by
     refine⟨?_,⟨?_,?_⟩,?_,?_,?_,Nat.le_refl _⟩
     ·exact argSlots_rel (has.mono fun _ _=>RV.move stab_snoc (Nat.le_refl _) hρc)
     ·exact fun k v hk=>(hi.slots k v (loose_get _ _ _ hk)).move stab_snoc (Nat.le_refl _) hρc
     ·exact all2_slr_mono stab_snoc (Nat.le_refl _) hρc hi.outer
     ·exact (hi.mem.ren hρc).snoc
     ·intro v hv
      obtain⟨h1,h2⟩:=hi.tips v hv
      exact⟨h1,fun u hu=>h2 u (by rw[←hρc v h1];exact hu)⟩
     ·refine ⟨fun v u hv hu => ?_, fun v hv => ?_, fun v v' u hu hu' => ?_⟩
      ·have hv : v < nx := hv
       rw[hρc v hv] at hu
       exact hi.ver.low v u (by omega) hu
      ·have hv : nx ≤ v := hv
       simp only[ρc]
       rw[if_neg (by omega)]
      ·simp [ρc] at hu hu'
       split at hu
       ·split at hu'
        ·exact hi.ver.inj v v' u hu hu'
        ·simp_all
         have:=hi.ver.low v u (by omega) hu
         omega
       ·simp_all
        split at hu'
        ·have := hi.ver.low v' u (by omega) hu'
         omega
        ·simp_all
         omega
    have fin : ∀ (ax : AX) (t2 : S2) (ρ' : VMap) (t : St), (∀ id, ax ≠ .exit id) → Ev Fs fn.body { slots := argSlots 0 aSz .lf, mem := s.mem ++ [.lf], tips := s.tips, nv := s.nv } (ax, t) → SR' ρ' (s.slots :: os) t2 t → Fr ρc nx s.nv ρ' t2.nv → s.nv ≤ t.nv →
      (match t2.outer with
      | o :: os' => ressK t2 fn.res fun vs => match Nat.beq row 0 with
       |true=>optK (imp2r t2.mem s2.mem.length vs) fun vs=>optK (tup2 vs) fun v=>
        K (.all v { slots:=merge s2.slots o,outer:=os',mem:=t2.mem.take s2.mem.length,tips:=t2.tips,nv:=t2.nv })
       | false => match !Nat.beq (row % 65536) 0 && !Nat.beq (row / 65536) 0, impPr t2.mem s2.mem.length (row % 65536) (lvQ s2.mem.length d) d t2.nv (E.ety ctx d) 1 vs with
        | true, some (vs, [u]) => match Nat.beq (row / 65536) u.t.size with
         |true=>optK (tup2 vs) fun v=>
          K (.all v { slots:=merge s2.slots o,outer:=os',mem:=updM (t2.mem.take s2.mem.length) [(lvQ s2.mem.length d,d,some (.row t2.nv u.t u.l))],tips:=t2.tips,nv:=t2.nv+1 })
         |false=>none
        |true,some (vs,[])=>optK (tup2 vs) fun v=>
         K (.all v { slots:=merge s2.slots o,outer:=os',mem:=t2.mem.take s2.mem.length,tips:=t2.tips,nv:=t2.nv+1 })
        |_,_=>none
      |[]=>none)=some r→∃ r2 e,(∃ n0,∀ n,n0≤n→doCall (runG Fs n) (shF Fs f) row s (lvQ s.mem.length d) d p f aSz=some e)∧ResOK ρ nx os s2 s r2 e∧K r2=some r:=by
     intro ax t2 ρ' t hax hev hsr hfr hnv hk
     have hout:=hsr.outer
     split at hk
     ·rename_i o os' ho
      rw[ho] at hout
      obtain⟨vs1,as1,q1,q2,hk'⟩:=ressK_ok hsr.mem hsr.slots hk
      clear hk
      have hk:=hk'
      obtain⟨n0,hev⟩:=hev
      have hrun:∀ n,n0+1≤n→runG Fs n f aSz (s.mem++[.lf]) s.tips s.nv=some (tupOf as1,t.mem,t.tips,t.nv):=by
       intro n hn
       obtain⟨n,rfl⟩:∃ k,n=k+1:=⟨n-1,by omega⟩
       simp[runG,hf]
       rw[←has.length]
       simp[hnp]
       have:=hev n n (by omega) (by omega)
       unfold shF at this
       rw[this]
       cases ax with
       |normal=>simp[q1,Option.map_some]
       |ret=>simp[q1,Option.map_some]
       |exit id=>exact absurd rfl (hax id)
      split at hk
      ·rename_i hrow
       have hrow:=Nat.eq_of_beq_eq_true hrow
       subst hrow
       obtain⟨vs2,q3,hk⟩:=optK_some hk
       obtain⟨v,q4,hk⟩:=optK_some hk
       obtain⟨a',q5,q6⟩:=impR_ok hsr.mem (lv:=lvQ s.mem.length d) (sl:=d) (ver:=p) q3 q4 q2
       refine⟨_,.all a' (applyUpd (t.mem.take s.mem.length) []) t.tips t.nv [] [],⟨n0+1,fun n hn=>?_⟩,?_,hk⟩
       ·rw [hsh]
        simp[doCall,hnt,hrun n hn]
        rw[hi.mem.len] at q5
        rw[q5]
        simp[rowUpd]
       ·refine ⟨ρ', ⟨?_, ?_, ?_, ?_, hsr.ver, Nat.le_refl _⟩, ?_, ?_, hnv⟩
        ·intro k v hk
         rcases merge_get _ _ _ _ hk with⟨h1,h2⟩|h1
         ·exact (hi.slots k v h1).still h2
         ·exact (hout.1 k v h1).move stab_take (Nat.le_refl _) fun _ _=>rfl
        ·exact all2_slr_mono stab_take (Nat.le_refl _) (fun _ _=>rfl) hout.2
        ·have := hsr.mem.take (k := s2.mem.length)
         rw[hi.mem.len] at this ⊢
         exact this
        ·exact hsr.tips
        ·exact q6
        ·intro v u hv hu
         rcases hfr v u hv hu with⟨w,hw,hwu⟩|h'
         ·exact .inl ⟨w,by omega,by rw[←hρc w hw];exact hwu⟩
         ·exact .inr h'
      ·rename_i hrow
       have hrow:row≠0:=beq_false.1 hrow
       split at hk
       ·rename_i vs2 u hq q3
        rw[Bool.and_eq_true] at hq
        have hq2:row / 65536≠0:=by intro e;rw[e] at hq;cases hq.2
        split at hk
        ·rename_i hsz
         have hsz:=Nat.eq_of_beq_eq_true hsz
         obtain⟨v,q4,hk⟩:=optK_some hk
         obtain⟨a',q5,q6⟩:=impPr_ok hsr.mem (p:=p) hrow rfl hq2 q3 q4 q2 (fun v hv=>by rw[List.mem_singleton.1 hv];exact hsz)
         have hnx : ρ nx=some p:=hi.pend 0 hrem
         have hps:p<s.nv:=by have:=hi.pn;omega
         let ρ'':VMap:=fun v=>if v<t2.nv then ρ' v else if v=t2.nv then some p else some (t.nv+(v-(t2.nv+1)))
         have e1:∀ v,v<t2.nv→ρ'' v = ρ' v:=fun v h=>if_pos h
         have e2 : ρ'' t2.nv=some p:=by
          show (if _ then _ else _)=_
          rw[if_neg (by omega),if_pos rfl]
         have e3:∀ v,t2.nv+1≤v→ρ'' v=some (t.nv+(v-(t2.nv+1))):=fun v h=>by
          show (if _ then _ else _)=_
          rw[if_neg (by omega),if_neg (by omega)]
         have fresh:∀ v,v<t2.nv→ρ' v≠some p:=by
          intro v hv hu
          rcases hfr v p hv hu with⟨w,hw,hwu⟩|h'
          ·rw [hρc w hw] at hwu
           have:=hi.ver.inj _ _ _ hwu hnx
           omega
          ·omega
         have hst:Stab t2.nv (t2.mem.take s2.mem.length) (updM (t2.mem.take s2.mem.length) [(lvQ s2.mem.length d,d,some (.row t2.nv u.t u.l))])  := by
          have:=stab_new (B:=t2.nv) (m:=t2.mem.take s2.mem.length) (ks:=[]) (lv:=lvQ s2.mem.length d) (sl:=d) (e:=.row t2.nv u.t u.l) (.inl (Nat.le_refl _))
          simpa[frees2,List.map_nil,List.nil_append] using this
         have hmt:=(hsr.mem.take (k:=s2.mem.length)).ren e1
         have hmu:MR ρ'' (t2.nv+1) (updM (t2.mem.take s2.mem.length) [(lvQ s2.mem.length d,d,some (.row t2.nv u.t u.l))]) (applyUpd (t.mem.take s2.mem.length) [(lvQ s2.mem.length d,d,some (.row p (encL u.t u.l)))]):=
          hmt.upd (Nat.le_succ _) hst (updR_one ⟨by omega,p,e2,rfl⟩)
         refine⟨_,.all a' (applyUpd (t.mem.take s.mem.length) [(lvQ s.mem.length d,d,some (.row p (encL u.t u.l)))]) t.tips t.nv [] [],⟨n0+1,fun n hn=>?_⟩,?_,hk⟩
         ·rw [hsh]
          simp[doCall,hnt,hrun n hn]
          rw[hi.mem.len] at q5
          rw[q5]
          simp[List.map_cons,List.map_nil,rowUpd]
         ·refine ⟨ρ'', ⟨?_, ?_, ?_, ?_, ⟨?_, e3, ?_⟩, Nat.le_refl _⟩, ?_, ?_, hnv⟩
          ·intro k v hk
           rcases merge_get _ _ _ _ hk with⟨h1,h2⟩|h1
           ·exact (hi.slots k v h1).still h2
           ·exact (hout.1 k v h1).move (stab_take.trans hst) (Nat.le_succ _) e1
          ·exact all2_slr_mono (stab_take.trans hst) (Nat.le_succ _) e1 hout.2
          ·rw [← hi.mem.len]
           exact hmu
          ·intro v hv
           obtain⟨h1,h2⟩:=hsr.tips v hv
           exact⟨Nat.lt_succ_of_lt h1,fun u hu=>h2 u (by rw[←e1 v h1];exact hu)⟩
          ·intro v u' hv hu
           have hv:v<t2.nv+1:=hv
           show u'<t.nv
           rcases Nat.lt_or_ge v t2.nv with h1|h1
           ·rw [e1 v h1] at hu
            exact hsr.ver.low v u' h1 hu
           ·have : v = t2.nv := by omega
            subst this
            rw[e2] at hu
            cases hu
            omega
          ·intro v v' u' hu hu'
           have hlow:∀ v,v<t2.nv→∀ u',ρ'' v=some u'→u'<t.nv∧u'≠p:=by
            intro v hv u' hu
            rw[e1 v hv] at hu
            exact⟨hsr.ver.low v u' hv hu,fun e=>fresh v hv (by rw[hu,e])⟩
           rcases Nat.lt_trichotomy v t2.nv with h1|h1|h1
           ·obtain ⟨l1, l2⟩ := hlow v h1 u' hu
            rcases Nat.lt_trichotomy v' t2.nv with h3|h3|h3
            ·rw [e1 v h1] at hu
             rw[e1 v' h3] at hu'
             exact hsr.ver.inj v v' u' hu hu'
            ·subst h3;rw[e2] at hu';simp_all
            ·rw[e3 v' h3] at hu';simp_all;omega
           ·subst h1
            rw[e2] at hu;injection hu with hu
            rcases Nat.lt_trichotomy v' t2.nv with h3|h3|h3
            ·obtain⟨l1,l2⟩:=hlow v' h3 u' hu';omega
            ·exact h3.symm
            ·rw[e3 v' h3] at hu';simp_all;omega
           ·rw [e3 v h1] at hu; injection hu with hu
            rcases Nat.lt_trichotomy v' t2.nv with h3|h3|h3
            ·obtain⟨l1,l2⟩:=hlow v' h3 u' hu';omega
            ·subst h3;rw[e2] at hu';simp_all;omega
            ·rw[e3 v' h3] at hu';simp_all;omega
          ·refine q6 ρ'' (t2.nv + 1) _ ⟨by omega, e2, fun v hv r' hr' => ?_⟩ e1 (Nat.le_succ _) hst
           rw[List.mem_singleton.1 hv]
           simp[updM] at hr'
           have:=rowOf_some hr'
           rw[mget_mset] at this
           split at this
           ·injection this with this
            injection this with _ h1 h2
            obtain⟨t',l'⟩:=r'
            simp only at h1 h2
            subst h1
            cases h2
            rfl
           ·obtain ⟨e, _, hlt, _⟩ := hmt.ents _ _ _ this
            omega
          ·intro v u' hv hu
           have hv:v<t2.nv+1:=hv
           rcases Nat.lt_or_ge v t2.nv with h1|h1
           ·rw [e1 v h1] at hu
            rcases hfr v u' h1 hu with⟨w,hw,hwu⟩|h'
            ·exact .inl ⟨w,by omega,by rw[←hρc w hw];exact hwu⟩
            ·exact .inr h'
           ·have : v = t2.nv := by omega
            subst this
            rw[e2] at hu
            exact .inl ⟨nx,by omega,by rw[hnx];exact hu⟩
        ·cases hk
       ·rename_i vs2 hq q3
        simp at hq
        have hq2:row / 65536≠0:=by intro e;rw[e] at hq;cases hq.2
        obtain⟨v,q4,hk⟩:=optK_some hk
        obtain⟨a',q5,q6⟩:=impPr_ok hsr.mem (p:=p) hrow rfl hq2 q3 q4 q2 (fun v hv=>(by cases hv))
        have hnx : ρ nx=some p:=hi.pend 0 hrem
        have hps:p<s.nv:=by have:=hi.pn;omega
        let ρ'':VMap:=fun v=>if v<t2.nv then ρ' v else if v=t2.nv then some p else some (t.nv+(v-(t2.nv+1)))
        have e1:∀ v,v<t2.nv→ρ'' v = ρ' v:=fun v h=>if_pos h
        have e2 : ρ'' t2.nv=some p:=by
         show (if _ then _ else _)=_
         rw[if_neg (by omega),if_pos rfl]
        have e3:∀ v,t2.nv+1≤v→ρ'' v=some (t.nv+(v-(t2.nv+1))):=fun v h=>by
         show (if _ then _ else _)=_
         rw[if_neg (by omega),if_neg (by omega)]
        have fresh:∀ v,v<t2.nv→ρ' v≠some p:=by
         intro v hv hu
         rcases hfr v p hv hu with⟨w,hw,hwu⟩|h'
         ·rw [hρc w hw] at hwu
          have:=hi.ver.inj _ _ _ hwu hnx
          omega
         ·omega
        have hst:Stab t2.nv (t2.mem.take s2.mem.length) (t2.mem.take s2.mem.length):=Stab.refl _ _
        have hmt:=(hsr.mem.take (k:=s2.mem.length)).ren e1
        have hmu:MR ρ'' (t2.nv+1) (t2.mem.take s2.mem.length) (t.mem.take s2.mem.length):=hmt.mono (Nat.le_succ _)
        refine⟨_,.all a' (applyUpd (t.mem.take s.mem.length) []) t.tips t.nv [] [],⟨n0+1,fun n hn=>?_⟩,?_,hk⟩
        ·rw [hsh]
         simp[doCall,hnt,hrun n hn]
         rw[hi.mem.len] at q5
         rw[q5]
         simp[List.map_nil,rowUpd]
        ·refine ⟨ρ'', ⟨?_, ?_, ?_, ?_, ⟨?_, e3, ?_⟩, Nat.le_refl _⟩, ?_, ?_, hnv⟩
         ·intro k v hk
          rcases merge_get _ _ _ _ hk with⟨h1,h2⟩|h1
          ·exact (hi.slots k v h1).still h2
          ·exact (hout.1 k v h1).move (stab_take.trans hst) (Nat.le_succ _) e1
         ·exact all2_slr_mono (stab_take.trans hst) (Nat.le_succ _) e1 hout.2
         ·rw [← hi.mem.len]
          exact hmu
         ·intro v hv
          obtain⟨h1,h2⟩:=hsr.tips v hv
          exact⟨Nat.lt_succ_of_lt h1,fun u hu=>h2 u (by rw[←e1 v h1];exact hu)⟩
         ·intro v u' hv hu
          have hv:v<t2.nv+1:=hv
          show u'<t.nv
          rcases Nat.lt_or_ge v t2.nv with h1|h1
          ·rw [e1 v h1] at hu
           exact hsr.ver.low v u' h1 hu
          ·have : v = t2.nv := by omega
           subst this
           rw[e2] at hu
           cases hu
           omega
         ·intro v v' u' hu hu'
          have hlow:∀ v,v<t2.nv→∀ u',ρ'' v=some u'→u'<t.nv∧u'≠p:=by
           intro v hv u' hu
           rw[e1 v hv] at hu
           exact⟨hsr.ver.low v u' hv hu,fun e=>fresh v hv (by rw[hu,e])⟩
          rcases Nat.lt_trichotomy v t2.nv with h1|h1|h1
          ·obtain ⟨l1, l2⟩ := hlow v h1 u' hu
           rcases Nat.lt_trichotomy v' t2.nv with h3|h3|h3
           ·rw [e1 v h1] at hu
            rw[e1 v' h3] at hu'
            exact hsr.ver.inj v v' u' hu hu'
           ·subst h3;rw[e2] at hu';simp_all
           ·rw[e3 v' h3] at hu';simp_all;omega
          ·subst h1
           rw[e2] at hu;injection hu with hu
           rcases Nat.lt_trichotomy v' t2.nv with h3|h3|h3
           ·obtain⟨l1,l2⟩:=hlow v' h3 u' hu';omega
           ·exact h3.symm
           ·rw[e3 v' h3] at hu';simp_all;omega
          ·rw [e3 v h1] at hu; injection hu with hu
           rcases Nat.lt_trichotomy v' t2.nv with h3|h3|h3
           ·obtain⟨l1,l2⟩:=hlow v' h3 u' hu';omega
           ·subst h3;rw[e2] at hu';simp_all;omega
           ·rw[e3 v' h3] at hu';simp_all;omega
         ·exact q6 ρ'' (t2.nv+1) _ ⟨by omega,e2,fun v hv=>(by cases hv)⟩ e1 (Nat.le_succ _) hst
         ·intro v u' hv hu
          have hv:v<t2.nv+1:=hv
          rcases Nat.lt_or_ge v t2.nv with h1|h1
          ·rw [e1 v h1] at hu
           rcases hfr v u' h1 hu with⟨w,hw,hwu⟩|h'
           ·exact .inl ⟨w,by omega,by rw[←hρc w hw];exact hwu⟩
           ·exact .inr h'
          ·have : v = t2.nv := by omega
           subst this
           rw[e2] at hu
           exact .inl ⟨nx,by omega,by rw[hnx];exact hu⟩
       ·cases hk
     ·cases hk
    dsimp at h
    split at h
    ·obtain ⟨ax, t2, ρ', t, g1, g2, g3, g4, g5⟩ := hwk _ _ _ _ _ _ _ h _ _ _ start
     cases ax with
     |exit id=>cases g5
     |normal=>exact fin .normal t2 ρ' t (fun _ h=>by cases h) g1 g2 g3 g4 g5
     |ret=>exact fin .ret t2 ρ' t (fun _ h=>by cases h) g1 g2 g3 g4 g5
    ·rename_i outs ho
     obtain⟨y,hy,h⟩:=bind_some h
     obtain⟨ax,t2,ρ',t,g1,g2,g3,g4,g5⟩:=hwk _ _ _ _ _ _ _ hy _ _ _ start
     have hax:∀ id,ax≠.exit id:=by
      intro id e
      subst e
      cases g5
     have g5:outsG outs .ret t2=some y:=by
      cases ax with
      |exit id=>cases g5
      |normal=>exact g5
      |ret=>exact g5
     obtain⟨t3,ρ'',g6,g7,g8⟩:=outs_ok g2 g5
     rw[g8] at h
     exact fin ax t3 ρ'' t hax g1 g6 (g3.trans g7 g4) g4 h
 ·rename_i hf
  exact callN_ok hE hi hrem (by simp[shF,←hE.fns,hf]) h has
theorem flat_cells {ρ : VMap} {B:Nat} {m:List (Tr E2)} : ∀ {l:List CSh} {d d':List Dyn} {cs:List Cell} {aSz:List AV},l.all CSh.flat=true→fillCs l d=some (cs,d')→All2 (RC ρ B m) cs aSz→aSz.all flatC=true
 |[],_,_,_,aSz,_,h,ha=>by
  cases h
  match aSz,ha with
  |[],_=>rfl
 | c :: l, d, d', cs, aSz, hl, h, ha => by
  rw[List.all_cons,Bool.and_eq_true] at hl
  simp[fillCs] at h
  split at h
  ·rename_i x r' h1
   split at h
   ·rename_i xs r'' h2
    cases h
    match aSz,ha with
    | a :: aSz, ha =>
     have hx:flatC a=true:=by
      have hf:=hl.1
      unfold CSh.fill at h1
      split at h1<;>first|(simp only[Option.some.injEq,Prod.mk.injEq] at h1;obtain⟨rfl,rfl⟩:=h1;first|(cases ha.1;rfl)|cases hf)|cases h1
     rw[List.all_cons,hx,flat_cells hl.2 h2 ha.2]<;>grind
   grind
  grind
theorem flat_R1 {ρ : VMap} {B:Nat} {m:List (Tr E2)} {b:Bool} {l:List CSh} {d d':List Dyn} {cs:List Cell} {a:AV} (hl:l.all CSh.flat=true) (h:fillCs l d=some (cs,d')) (ha:R1 ρ B m (b,cs) a):flat1 a=true:=by
 cases b with
 |true=>obtain⟨aSz,rfl,ha⟩:=ha;exact flat_cells hl h ha
 |false=>
  obtain⟨c,rfl,ha⟩:=ha
  have:=flat_cells (aSz:=[a]) hl h ⟨ha,trivial⟩
  simp at this
  cases a<;>first|exact this|cases this
theorem flat_rest {ρ : VMap} {B:Nat} {m:List (Tr E2)} : ∀ {res:List (Bool×List CSh)} {d d':List Dyn} {ws:List (Bool×List Cell)} {aSz:List AV},flatRes res=true→fillR res d=some (ws,d')→All2 (R1 ρ B m) ws aSz→aSz.all flat1=true
 |[],_,_,_,aSz,_,h,ha=>by
  cases h
  match aSz,ha with
  |[],_=>rfl
 | (b, l) :: res, d, d', ws, aSz, hl, h, ha => by
  unfold flatRes at hl
  rw[List.all_cons,Bool.and_eq_true] at hl
  simp[fillR] at h
  split at h
  ·rename_i x r' h1
   split at h
   ·rename_i xs r'' h2
    cases h
    match aSz,ha with
    |a :: aSz,ha=>
     rw[List.all_cons,flat_R1 hl.1 h1 ha.1,flat_rest (res:=res) hl.2 h2 ha.2]<;>grind
   grind
  grind
theorem flat_res {ρ : VMap} {B:Nat} {m:List (Tr E2)} {res:List (Bool×List CSh)} {d d':List Dyn} {ws:List (Bool×List Cell)} {w:V2} {a:AV} (hl:flatRes res=true) (h:fillR res d=some (ws,d')) (ht:tup2 ws=some w) (ha:RV ρ B m w a):flatR a=true:=by
 unfold tup2 at ht
 split at ht
 ·rename_i b cs
  have hr:R1 ρ B m (b,cs) a:=by
   cases b with
   |true=>cases ht;exact ha
   |false=>
    match cs,ht with
    |[c],ht=>cases ht;exact⟨c,rfl,ha⟩
  have:=flat_rest (aSz:=[a]) hl h ⟨hr,trivial⟩
  simp at this
  cases a<;>first|exact this|cases this
 ·cases ht
  obtain⟨aSz,rfl,ha⟩:=ha
  exact flat_rest hl h ha
theorem callFK_ok (hE:EnvOK Fs E) (hi:RI ρ nx rem os s2 s p) {f:Nat} {vs:List V2} {aSz:List AV} (h:callFK E s2 f vs K=some r) (has:All2 (RV ρ nx s2.mem) vs aSz) :
  ∃ r2 e,(∃ n0,∀ n,n0≤n→doFlat (runG Fs n) s f aSz=some e)∧ResOK ρ nx os s2 s r2 e∧K r2=some r:=by
 obtain⟨c,hc,h⟩:=optK_some h
 split at h
 ·rename_i hfl
  obtain⟨⟨ds,bs⟩,ha,h⟩:=optK_some h
  obtain⟨x,hx,h⟩:=optK_some h
  obtain⟨hb,h⟩:=chkAll_some h
  obtain⟨y,hy,h⟩:=bind_some h
  split at h
  ·rename_i ws hws
   obtain⟨w,hw,h⟩:=optK_some h
   obtain⟨as',vs',g1,gk,g2,g3⟩:=argsF2_ok hi.mem ha has hb
   simp at hfl
   obtain⟨hfl,h65⟩:=hfl
   obtain⟨vs1,g4,g5⟩:=hE.cal f c hc x y hy
   rw[unpack_pack hx] at g4
   have g2':=g2 []
   rw[List.append_nil,g4] at g2'
   cases g2'
   obtain⟨n0,rv,cm,ts,nv,g6,g7⟩:=g5 as' g3 (fun _=>argsF_okA g1)
   obtain⟨a',g8,g9⟩:=(g7 ws hws).1 (fun e=>by rw[e] at h65;cases h65) w hw 0 0 0
   have hfa:=flat_res hfl hws hw (g9 ρ0 0 [])
   refine⟨_,.eff { val:=a',upd:=[],tip:=[],rd:=aSz.flatMap (keyF s.mem) },⟨n0,fun n hn=>?_⟩,?_,h⟩
   ·simp[doFlat,g1,g6 n hn,g8,hfa]
   ·exact .of_val hi.mem hi.tips (by omega) (g9 _ _ _) gk
  grind
 grind
end
end Go.Sym
