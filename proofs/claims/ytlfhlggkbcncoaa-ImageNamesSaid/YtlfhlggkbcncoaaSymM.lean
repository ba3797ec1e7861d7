/- A law of the program, from its function over typed data. -/
import Derived.Test.YtlfhlggkbcncoaaSymL
namespace Go.Sym
open Go Go.Eng Go.RowKit
def tysOf:Ty→List Ty
 |.val=>[.int .u8,.int .i64,.str,.sl .val,.bool]
 |.int k=>[.int k]
 |.bool=>[.bool]
 |.str=>[.str]
 |.sl t=>[.sl t]
 |.unit=>[]
 |.prod a b=>tysOf a++tysOf b
 |.sum _ _=>[]
def cshOf:Ty→List CSh
 |.val=>[.int .u8,.int .i64,.str,.sl .val .d,.bool]
 |.int k=>[.int k]
 |.bool=>[.bool]
 |.str=>[.str]
 |.sl t=>[.sl t .d]
 |.unit=>[]
 |.prod a b=>cshOf a++cshOf b
 |.sum _ _=>[]
def flat:(T:Ty)→T.den→List Dyn
 |.val,v=>[⟨.int .u8,v.kind⟩,⟨.int .i64,v.int⟩,⟨.str,v.text⟩,⟨.sl .val,v.list⟩,⟨.bool,v.cut⟩]
 |.int k,a=>[⟨.int k,a⟩]
 |.bool,b=>[⟨.bool,b⟩]
 |.str,s=>[⟨.str,s⟩]
 |.sl t,l=>[⟨.sl t,l⟩]
 |.unit,_=>[]
 |.prod a b,x=>flat a x.1++flat b x.2
 |.sum _ _,_=>[]
theorem flat_tys:∀ (T:Ty) (x:T.den),(flat T x).map (·.t)=tysOf T
 |.val,_=>rfl
 |.int _,_=>rfl
 |.bool,_=>rfl
 |.str,_=>rfl
 |.sl _,_=>rfl
 |.unit,_=>rfl
 |.prod a b,x=>by simp[flat,tysOf,flat_tys a,flat_tys b]
 |.sum _ _,_=>rfl
theorem fillCs_append:∀ {l l':List CSh} {r r' r'':List Dyn} {xs ys:List Cell},fillCs l r=some (xs,r')→fillCs l' r'=some (ys,r'')→fillCs (l++l') r=some (xs++ys,r'')
 |[],l',r,r',r'',xs,ys,h,h'=>by
  simp only[fillCs,Option.some.injEq,Prod.mk.injEq] at h
  obtain⟨rfl,rfl⟩:=h
  exact h'
 | c :: l, l', r, r', r'', xs, ys, h, h' => by
  simp only[fillCs] at h
  split at h
  ·rename_i x r1 h1
   split at h
   ·rename_i xs1 r2 h2
    injection h with h;injection h with h3 h4;subst h3 h4
    simp only[List.cons_append,fillCs,h1,fillCs_append h2 h']
   ·cases h
  ·cases h
theorem flat_fill:∀ (T:Ty) (x:T.den) (rest:List Dyn),fillCs (cshOf T) (flat T x++rest)=some (cellsT T x,rest)
 |.val,_,_=>rfl
 |.int _,_,_=>rfl
 |.bool,_,_=>rfl
 |.str,_,_=>rfl
 |.sl _,_,_=>rfl
 |.unit,_,_=>rfl
 |.prod a b,x,rest=>by
  simp only[cshOf,flat,List.append_assoc,cellsT]
  exact fillCs_append (flat_fill a x.1 _) (flat_fill b x.2 rest)
 |.sum _ _,_,_=>rfl
def okD (ds:List Dyn):Prop:=∀ d∈ds,d.t.ok d.v
theorem flat_ok:∀ (T:Ty) (x:T.den),T.ok x→okD (flat T x)
 |.val,v,h=>by
  cases v
  obtain⟨h1,h2,h3,h4,h5⟩:=h
  intro d hd
  simp only[flat,List.mem_cons,List.not_mem_nil,or_false] at hd
  rcases hd with rfl|rfl|rfl|rfl|rfl
  ·exact h1
  ·exact h2
  ·exact h3
  ·exact⟨h4,Val.oks_iff.1 h5⟩
  ·trivial
 |.int _,_,h=>fun d hd=>by simp[flat] at hd;subst hd;exact h
 |.bool,_,h=>fun d hd=>by simp[flat] at hd;subst hd;exact h
 |.str,_,h=>fun d hd=>by simp[flat] at hd;subst hd;exact h
 |.sl _,_,h=>fun d hd=>by simp[flat] at hd;subst hd;exact h
 |.unit,_,_=>fun d hd=>by simp[flat] at hd
 |.prod a b,x,h=>fun d hd=>by
  simp only[flat,List.mem_append] at hd
  rcases hd with hd|hd
  ·exact flat_ok a x.1 h.1 d hd
  ·exact flat_ok b x.2 h.2 d hd
 |.sum _ _,_,_=>fun d hd=>by simp[flat] at hd
theorem castTy_refl (a:Ty) (x:a.den):castTy a a x=some x:=by
 unfold castTy
 split
 ·rfl
 ·rename_i h _;exact absurd rfl h
theorem pack_self:∀ ds:List Dyn,∃ x,pack (ds.map (·.t)) ds=some x
 |[]=>⟨(),rfl⟩
 |[d]=>⟨d.v,castTy_refl _ _⟩
 |d :: e :: r=>by
  obtain⟨y,hy⟩:=pack_self (e :: r)
  refine⟨(d.v,y),?_⟩
  have hy':pack (e.t :: r.map (·.t)) (e :: r)=some y:=hy
  show pack (d.t :: e.t :: r.map (·.t)) (d :: e :: r)=some (d.v,y)
  simp only[pack,castTy_refl,hy']
abbrev Par:=TypeId×Bool×Ty
def Par.sh (p:Par):PSh:=
 match p.2.1,cshOf p.2.2 with
 |false,[c]=>.c c
 |_,l=>.agg l
def parTys (l:List Par):List Ty:=l.flatMap fun p=>tysOf p.2.2
def okL (ts:List Ty) (x:(tyL ts).den):Prop:=okD (unpack ts x)
theorem noBox:∀ l:List Par,boxP (l.map Par.sh)=none
 |[]=>rfl
 |p :: l=>by
  simp only[List.map_cons,Par.sh]
  split<;>rfl
def parFit (P:Program) (p:Par):Bool:=
 match P.underlying p.1 with
 |some (.struct _)=>p.2.1
 |some (.array _ _)=>p.2.1
 |some .bool|some (.int _)|some .string|some (.slice _)=>!p.2.1
 |_=>false
def parOK (P:Program) (rv:Option TypeId) (k:Nat) (p:Par):Prop:=tyP P rv k p.1=some p.2.2∧parFit P p=true
section
variable {H:Type} {enc:TypeId×Value→H} {P:Program} {w:World} {sp:Nat→Bool} {held:Bool} {rv:Option TypeId}
theorem okWide_agg {t:TypeId} {v:Value} {b:Nat} {fs:Array Field} (h:Value.okWide P w .any b t v) (hu:P.underlying t=some (.struct fs)):∃ cs,v=.agg cs:=by
 simp only[Value.okWide,hu] at h
 obtain⟨cs,h1,_⟩:=h
 exact⟨cs,h1⟩
theorem okWide_arr {t:TypeId} {v:Value} {b n:Nat} {e:TypeId} (h:Value.okWide P w .any b t v) (hu:P.underlying t=some (.array n e)):∃ cs,v=.agg cs:=by
 simp only[Value.okWide,hu] at h
 obtain⟨cs,h1,_⟩:=h
 exact⟨cs,h1⟩
theorem okWide_cell {t:TypeId} {v:Value} {b:Nat} {d:TypeDesc} (h:Value.okWide P w .any b t v) (hu:P.underlying t=some d) (hd:d=.bool∨(∃ k,d=.int k)∨d=.string∨∃ e,d=.slice e):v.cells = #[v]:=by
 rcases hd with rfl|⟨k,rfl⟩|rfl|⟨e,rfl⟩<;>cases v<;>first|rfl|(simp[Value.okWide,hu,Cell.okWide,Cell.ok] at h)
def fit1 (P:Program) (t:TypeId):(T:Ty)→T.den→Prop
 |.sl _,l=>∀ e,P.underlying t=some (.slice e)→l.length*P.bytesOf e≤reachBytes
 |.str,s=>P.underlying t=some .string→s.length≤reachBytes
 |_,_=>True
theorem fit_ok {fuel:Nat} {t:TypeId} {cs:List Value} {d:DataW H} {ps:List MemPlace} (hf:DataW.trod enc P w 0 sp held fuel t cs=some (d,ps)) {T:Ty} {x:T.den} {F:Nat→Nat→Prop} (hx:All2 (DR w F) (encs T x) cs)
  (hw:(d.weights P t).all (fun b=>decide (b≤reachBytes))=true):fit1 P t T x:=by
 cases fuel with
 |zero=>simp[DataW.trod] at hf
 |succ fuel=>
 cases T with
 | sl T' =>
  intro e he
  match cs,hx with
  | [c], hx =>
   have hd:DR w F (.sl (List.map (encs T') x)) c:=hx.1
   cases hd with
   | sl els a n cap sz b o g hn hcap hsz ha hF hc hr =>
    rw[List.length_map] at hn
    unfold DataW.trod at hf
    rw[he] at hf
    simp only at hf
    split at hf<;>first|(exfalso;have q:=‹some (TypeDesc.slice e)=some _›;injection q with q;cases q;done)|cases hf|skip
    ·rename_i heq
     injection heq with heq;injection heq with _ h2 _
     have:x.length=0:=by omega
     rw[this,Nat.zero_mul]
     exact Nat.zero_le _
    ·rename_i e' a len cap heq
     injection heq with heq;injection heq with heq;subst heq
     split at hf
     ·obtain ⟨elems, hel, hf⟩ := opt_bind hf
      obtain⟨rest,hrest,heq⟩:=opt_map hf
      simp only[Prod.mk.injEq] at heq
      obtain⟨rfl,_⟩:=heq
      have hlen:=(mapM_some hel).1
      rw[List.length_range] at hlen
      simp only[DataW.weights,he,List.all_cons,Bool.and_eq_true,decide_eq_true_eq,List.length_map] at hw
      exact Nat.le_trans (Nat.mul_le_mul_right _ (by omega)) hw.1
     ·cases hf
 | str =>
  intro he
  match cs,hx with
  | [c], hx =>
   have hd:DR w F (.sc (.string ⟨x.toArray⟩)) c:=hx.1
   cases hd with
   |sc v h1=>
    unfold DataW.trod at hf
    rw[he] at hf
    simp only at hf
    split at hf<;>first|(exfalso;have q:=‹some TypeDesc.string=some _›;injection q with q;cases q;done)|cases hf|skip
    simpa[DataW.weights] using hw
 |_=>trivial
def fitD (P:Program):List Par→List Dyn→Prop
 |[],_=>True
 |p :: l,ds=>(∃ x:p.2.2.den,(∃ rest,ds=flat p.2.2 x++rest)∧fit1 P p.1 p.2.2 x)∧fitD P l (ds.drop (tysOf p.2.2).length)
def fitL (P:Program) (l:List Par) (x:(tyL (parTys l)).den):Prop:=fitD P l (unpack (parTys l) x)
def cxA (w:World) (ps:List MemPlace):Cx:={ w,F:=inPs ps,ρ:=fun _=>none,old:=fun b=>b<w.heap.size }
theorem cxA_mem (ps:List MemPlace) (hlt:∀ x∈ps,x.block<w.heap.size):MemOK (cxA w ps) [.lf] .lf where
 ents lv sl e he:=by rw[memGet_lf] at he;cases he
 tips v hv:=by simp at hv
 apart k k' v v' L L' a b:=by
  rcases a with⟨_,_,_,_,he,_⟩|⟨_,he⟩
  ·rw[memGet_lf] at he;cases he
  ·simp at he
 inF b o h:=hlt _ h
 low:=fun _ h=>h
theorem all2_V1 {X:Cx} : ∀ {ds:List D} {cs:List Value},All2 (DR X.w X.F) ds cs→All2 (VC X) (ds.map .d) cs
 |[],[],_=>trivial
 |_ :: _,_ :: _,h=>⟨h.1,all2_V1 h.2⟩
 |[],_ :: _,h=>h.elim
 |_ :: _,[],h=>h.elim
theorem par_ok (hrv:RvOK P rv) {k:Nat} {p:Par} (hp:parOK P rv k p) {v:Value} {d:DataW H} {qs ps:List MemPlace} {b:Nat} (hv:Value.okWide P w .any b p.1 v) (h:DataW.Trod enc P w 0 sp held p.1 v d qs) (hsub:∀ q∈qs,q∈ps) :
  ∃ (x:p.2.2.den) (a:AV) (u:V2),p.2.2.ok x∧V1 (cxA w ps) a v∧RV ρ0 0 [] u a∧(∀ rest,fillP [p.sh] (flat p.2.2 x++rest)=some ([u],rest))∧((d.weights P p.1).all (fun b=>decide (b≤reachBytes))=true→fit1 P p.1 p.2.2 x):=by
 obtain⟨t,ag,T⟩:=p
 obtain⟨hT,hfit⟩:=hp
 simp only at hT hfit hv h ⊢
 obtain⟨fuel,hf⟩:=h
 obtain⟨x,ox,hx⟩:=trod_data hrv fuel _ _ _ _ hf _ _ hT
 have hfit1:=fun hw=>fit_ok (x:=x) hf hx hw
 have hx:All2 (DR (cxA w ps).w (cxA w ps).F) (encs T x) v.cells.toList:=hx.mono fun _ _=>DR.mono fun b o hb=>hsub _ hb
 have hfill:=flat_fill T x
 have aggcase:(∃ cs,v=.agg cs)→ag=true→∃ (a:AV) (u:V2),V1 (cxA w ps) a v∧RV ρ0 0 [] u a∧∀ rest,fillP [Par.sh (t,ag,T)] (flat T x++rest)=some ([u],rest):=by
  rintro⟨cs,rfl⟩ rfl
  refine⟨.agg ((encs T x).map .d),.agg (cellsT T x),⟨cs,rfl,all2_V1 hx⟩,⟨_,rfl,cellsT_ok T x⟩,fun rest=>?_⟩
  simp only[Par.sh,fillP,VSh.fill,hfill]
 have cellcase : v.cells = #[v] → ag = false → (∃ c, cshOf T = [c]) → ∃ (a : AV) (u : V2), V1 (cxA w ps) a v ∧ RV ρ0 0 [] u a ∧ ∀ rest, fillP [Par.sh (t, ag, T)] (flat T x ++ rest) = some ([u], rest) := by
  rintro hc rfl ⟨c,hcs⟩
  rw[hc] at hx
  have hl:=hx.length
  simp at hl
  match he:encs T x,hl with
  | [y], _ =>
   rw[he] at hx
   have hcell:=cellsT_ok (ρ:=ρ0) (B:=0) (m:=[]) T x
   rw[he] at hcell
   match hct:cellsT T x,hcell with
   | [z], hcell =>
    refine⟨.d y,.c z,?_,hcell.1,fun rest=>?_⟩
    ·exact hx.1
    ·have := hfill rest
     rw[hcs,hct] at this
     simp only[fillCs] at this
     simp only[Par.sh,hcs,fillP,VSh.fill]
     split at this
     ·rename_i y' r' h1
      simp only[Option.some.injEq,Prod.mk.injEq,List.cons.injEq,and_true] at this
      obtain⟨rfl,rfl⟩:=this
      rfl
     ·cases this
 have fin:(∃ (a:AV) (u:V2),V1 (cxA w ps) a v∧RV ρ0 0 [] u a∧∀ rest,fillP [Par.sh (t,ag,T)] (flat T x++rest)=some ([u],rest))→∃ (x:T.den) (a:AV) (u:V2),T.ok x∧V1 (cxA w ps) a v∧RV ρ0 0 [] u a∧(∀ rest,fillP [Par.sh (t,ag,T)] (flat T x++rest)=some ([u],rest))∧((d.weights P t).all (fun b=>decide (b≤reachBytes))=true→fit1 P t T x):=by
  rintro⟨a,u,h1,h2,h3⟩
  exact⟨x,a,u,ox,h1,h2,h3,hfit1⟩
 apply fin
 unfold parFit at hfit
 cases hu:P.underlying t with
 |none=>rw[hu] at hfit;cases hfit
 | some desc =>
  rw[hu] at hfit
  cases k with
  |zero=>simp[tyP] at hT
  |succ k=>
  have one:∀ {d:TypeDesc},desc=d→(d=.bool∨(∃ k,d=.int k)∨d=.string∨∃ e,d=.slice e)→∃ c,cshOf T=[c]:=by
   intro d hd hq
   subst hd
   simp only[tyP] at hT
   split at hT
   ·rename_i hr
    obtain⟨fs,_,hu',_⟩:=hrv t hr
    rw[hu] at hu'
    injection hu' with hu'
    subst hu'
    rcases hq with h|⟨_,h⟩|h|⟨_,h⟩<;>cases h
   ·rw [hu] at hT
    rcases hq with rfl|⟨k,rfl⟩|rfl|⟨e,rfl⟩
    ·injection hT with hT;subst hT;exact⟨_,rfl⟩
    ·injection hT with hT;subst hT;exact⟨_,rfl⟩
    ·injection hT with hT;subst hT;exact⟨_,rfl⟩
    ·simp only at hT
     split at hT
     ·split at hT
      ·injection hT with hT;subst hT;exact⟨_,rfl⟩
      ·cases hT
     ·cases hT
  cases desc with
  |struct fs=>exact aggcase (okWide_agg hv hu) hfit
  |array n e=>exact aggcase (okWide_arr hv hu) hfit
  |bool=>exact cellcase (okWide_cell hv hu (.inl rfl)) (by simpa using hfit) (one rfl (.inl rfl))
  |int kd=>exact cellcase (okWide_cell hv hu (.inr (.inl ⟨kd,rfl⟩))) (by simpa using hfit) (one rfl (.inr (.inl ⟨kd,rfl⟩)))
  |string=>exact cellcase (okWide_cell hv hu (.inr (.inr (.inl rfl)))) (by simpa using hfit) (one rfl (.inr (.inr (.inl rfl))))
  |slice e=>exact cellcase (okWide_cell hv hu (.inr (.inr (.inr ⟨e,rfl⟩)))) (by simpa using hfit) (one rfl (.inr (.inr (.inr ⟨e,rfl⟩))))
  |_=>cases hfit
theorem fillP_append:∀ {l l':List PSh} {r r' r'':List Dyn} {xs ys:List V2},fillP l r=some (xs,r')→fillP l' r'=some (ys,r'')→fillP (l++l') r=some (xs++ys,r'')
 |[],l',r,r',r'',xs,ys,h,h'=>by
  simp only[fillP,Option.some.injEq,Prod.mk.injEq] at h
  obtain⟨rfl,rfl⟩:=h
  exact h'
 | c :: l, l', r, r', r'', xs, ys, h, h' => by
  simp only[fillP] at h
  simp only[List.cons_append,fillP]
  split at h
  ·rename_i x r1 h1
   split at h
   ·rename_i xs1 r2 h2
    injection h with h;injection h with h3 h4;subst h3 h4
    simp only[fillP_append h2 h']
    rfl
   ·cases h
  ·cases h
theorem pars_ok (hrv:RvOK P rv) {k b:Nat} {ps:List MemPlace} : ∀ {l:List Par} {vs:List Value} {ds:List (DataW H)} {qs:List MemPlace},(∀ p∈l,parOK P rv k p)→(∀ (j:Nat) (p:Par) v,l[j]?=some p→vs[j]?=some v→Value.okWide P w .any b p.1 v)→DataW.TrodAll enc P w 0 sp held (l.map (·.1)) vs ds qs→(∀ q∈qs,q∈ps)→
  ∃ (dd:List Dyn) (as:List AV) (us:List V2),okD dd∧dd.map (·.t)=parTys l∧All2 (V1 (cxA w ps)) as vs∧All2 (RV ρ0 0 []) us as∧(∀ rest,fillP (l.map Par.sh) (dd++rest)=some (us,rest))∧((DataW.weightsEach P (l.map (·.1)) ds).all (fun b=>decide (b≤reachBytes))=true→fitD P l dd)
 |[],vs,ds,qs,_,_,h,_=>by
  match vs,ds,h with
  |[],[],_=>exact⟨[],[],[],fun d hd=>(by cases hd),rfl,trivial,trivial,fun _=>rfl,fun _=>trivial⟩
 | p :: l, vs, ds, qs, hp, hv, h, hsub => by
  match vs,ds,h with
  | v :: vs, d :: ds, h =>
   obtain⟨p1,q1,h1,h2,rfl⟩:=h
   obtain⟨x,a,u,g1,g2,g3,g4,g4'⟩:=par_ok hrv (hp p List.mem_cons_self) (hv 0 p v rfl rfl) h1 (fun q hq=>hsub q (List.mem_append_left _ hq))
   obtain⟨dd,as,us,g5,g6,g7,g8,g9,g9'⟩:=pars_ok hrv (l:=l) (fun q hq=>hp q (List.mem_cons_of_mem _ hq)) (fun j p' v' hj hj'=>hv (j+1) p' v' (by simpa using hj) (by simpa using hj')) h2 (fun q hq=>hsub q (List.mem_append_right _ hq))
   refine⟨flat p.2.2 x++dd,a :: as,u :: us,?_,?_,⟨g2,g7⟩,⟨g3,g8⟩,fun rest=>?_,fun hw=>?_⟩
   ·intro e he
    rcases List.mem_append.1 he with he|he
    ·exact flat_ok _ x g1 e he
    ·exact g5 e he
   ·simp[parTys,flat_tys,g6]
   ·rw [List.append_assoc]
    exact fillP_append (g4 _) (g9 rest)
   ·simp only [List.map_cons, DataW.weightsEach, List.all_append, Bool.and_eq_true] at hw
    refine⟨⟨x,⟨dd,rfl⟩,g4' hw.1⟩,?_⟩
    have e:(tysOf p.2.2).length=(flat p.2.2 x).length:=by rw[←flat_tys p.2.2 x,List.length_map]
    rw[e,List.drop_left]
    exact g9' hw.2
theorem impR_bool {cm:List (Tr Ent)} {lv sl ver:Nat} {rv:AV} {b:Bool} (h:impR cm 0 0 lv sl ver rv=some (.d (.sc (.bool b)),[])):rv=.d (.sc (.bool b)):=by
 cases rv with
 |d x=>
  simp only[impR,imp1,impCell,Option.some.injEq,Prod.mk.injEq,and_true] at h
  exact h
 |own els o=>cases o<;>simp[impR,imp1,impCell,keepOwn] at h
 |agg cs=>
  simp only[impR,imp1] at h
  obtain⟨z,_,he⟩:=opt_map h
  simp at he
 |tup vs=>
  simp only[impR] at h
  obtain⟨z,_,he⟩:=opt_map h
  simp at he
 | ref lv' sl' ver' off len sz =>
  simp only[impR,imp1,impCell] at h
  split at h
  ·simp at h
  ·split at h
   ·cases h
   ·simp at h
 |ptr=>simp[impR,imp1,impCell] at h
 |bref=>simp[impR,imp1,impCell] at h
 |mp=>simp[impR,imp1,impCell] at h
 |dptr=>simp[impR,imp1,impCell] at h
 |clo f cs=>cases cs<;>simp[impR,imp1,impCell] at h
theorem law_calls {lib:Nat→Option TypeId} {md:Nat→Eng.Mode} {Fs:Nat→Option AFn} {f:Nat} (hmix:P.follows .mixedOrders=true) (hlib:∀ f T,lib f=some T→IsLib P f T) (hFs:∀ f fn,Fs f=some fn→fnP P lib md f=some fn)
  (hrv:RvOK P rv) {k b:Nat} {l:List Par} (hp:∀ p∈l,parOK P rv k p) {F:(tyL (parTys l)).den→Option Bool} (hcal:CalOK Fs f ⟨l.map Par.sh,parTys l,[(false,[.bool])],[.bool],0,F⟩)
  (hF:∀ x,okL (parTys l) x→F x=some true)
  {args:Array Value} {ds:List (DataW H)} {ps:List MemPlace} (hval:∀ (j:Nat) (p:Par) v,l[j]?=some p→args[j]?=some v→Value.okWide P w .any b p.1 v)
  (hargs:DataW.TrodAll enc P w 0 sp held (l.map (·.1)) args.toList ds ps) (hlt:∀ x∈ps,x.block<w.heap.size) :
  Calls P f args w fun e w'=>e=.returned (.bool true)∧Below w.heap.size w w':=by
 obtain⟨dd,as,us,g1,g2,g3,g4,g5,_⟩:=pars_ok hrv (ps:=ps) hp (fun j p v hj hv=>hval j p v hj (by simpa using hv)) hargs (fun _ h=>h)
 obtain⟨x,hx⟩:∃ x,pack (parTys l) dd=some x:=g2 ▸ pack_self dd
 have hu:=unpack_pack hx
 have hok:okL (parTys l) x:=by unfold okL;rw[hu];exact g1
 obtain⟨vs,h1,h2⟩:=hcal.1 (noBox l) x true (hF x hok)
 simp only[hu] at h1
 have h5:=g5 []
 rw[List.append_nil,h1] at h5
 injection h5 with h5;injection h5 with h5 _;subst h5
 obtain⟨n0,r,cm,ts,nv,h3,h4⟩:=h2 as g4
 obtain⟨a',h6,h7⟩:=(h4 [(false,[.bool true])] rfl).1 (.c (.bool true)) rfl 0 0 0
 have ha:a'=.d (.sc (.bool true)):=h7 ρ0 0 []
 subst ha
 have hr:=impR_bool h6
 subst hr
 obtain⟨_,hc⟩:=runF_ok hmix hlib hFs n0 f as [.lf] .lf 0 _ cm ts nv (h3 n0 (Nat.le_refl _)) (cxA w ps) args (cxA_mem ps hlt) (fun _ _=>rfl) g3
 refine hc.mono ?_
 rintro e w' ⟨Y,u,rfl,rfl,hx,hv,_⟩
 cases hv
 exact⟨rfl,hx.below.toBelow⟩
theorem law_calls_sized {lib:Nat→Option TypeId} {md:Nat→Eng.Mode} {Fs:Nat→Option AFn} {f:Nat} (hmix:P.follows .mixedOrders=true) (hlib:∀ f T,lib f=some T→IsLib P f T) (hFs:∀ f fn,Fs f=some fn→fnP P lib md f=some fn)
  (hrv:RvOK P rv) {k b:Nat} {l:List Par} (hp:∀ p∈l,parOK P rv k p) {F:(tyL (parTys l)).den→Option Bool} (hcal:CalOK Fs f ⟨l.map Par.sh,parTys l,[(false,[.bool])],[.bool],0,F⟩)
  (hF:∀ x,okL (parTys l) x→fitL P l x→F x=some true)
  {args:Array Value} {ds:List (DataW H)} {ps:List MemPlace} (hval:∀ (j:Nat) (p:Par) v,l[j]?=some p→args[j]?=some v→Value.okWide P w .any b p.1 v)
  (hargs:DataW.TrodAll enc P w 0 sp held (l.map (·.1)) args.toList ds ps) (hlt:∀ x∈ps,x.block<w.heap.size) (hwt:(DataW.weightsEach P (l.map (·.1)) ds).all (fun b=>decide (b≤reachBytes))=true) :
  Calls P f args w fun e w'=>e=.returned (.bool true)∧Below w.heap.size w w':=by
 obtain⟨dd,as,us,g1,g2,g3,g4,g5,g6⟩:=pars_ok hrv (ps:=ps) hp (fun j p v hj hv=>hval j p v hj (by simpa using hv)) hargs (fun _ h=>h)
 obtain⟨x,hx⟩:∃ x,pack (parTys l) dd=some x:=g2 ▸ pack_self dd
 have hu:=unpack_pack hx
 have hok:okL (parTys l) x:=by unfold okL;rw[hu];exact g1
 obtain⟨vs,h1,h2⟩:=hcal.1 (noBox l) x true (hF x hok (by unfold fitL;rw[hu];exact g6 hwt))
 simp only[hu] at h1
 have h5:=g5 []
 rw[List.append_nil,h1] at h5
 injection h5 with h5;injection h5 with h5 _;subst h5
 obtain⟨n0,r,cm,ts,nv,h3,h4⟩:=h2 as g4
 obtain⟨a',h6,h7⟩:=(h4 [(false,[.bool true])] rfl).1 (.c (.bool true)) rfl 0 0 0
 have ha:a'=.d (.sc (.bool true)):=h7 ρ0 0 []
 subst ha
 have hr:=impR_bool h6
 subst hr
 obtain⟨_,hc⟩:=runF_ok hmix hlib hFs n0 f as [.lf] .lf 0 _ cm ts nv (h3 n0 (Nat.le_refl _)) (cxA w ps) args (cxA_mem ps hlt) (fun _ _=>rfl) g3
 refine hc.mono ?_
 rintro e w' ⟨Y,u,rfl,rfl,hx,hv,_⟩
 cases hv
 exact⟨rfl,hx.below.toBelow⟩
theorem args_stay (hl:laidOutB P=true) {W W':World} (hb:Below W.heap.size W W'):∀ {ts:List TypeId} {vs:List Value} {ds:List (DataW H)} {ps:List MemPlace},(ts.all fun t=>P.readableRec t&&decide (t<P.types.size))=true→DataW.TrodAll enc P W 0 (fun _=>true) true ts vs ds ps→(∀ x∈ps,x.block<W.heap.size)→
  DataW.TrodAll enc P W' 0 (fun b=>decide (b<W.heap.size)) true ts vs ds ps
 |[],vs,ds,ps,_,h,_=>by
  match vs,ds,h with
  |[],[],h=>exact h
 | t :: ts, vs, ds, ps, ht, h, hlt => by
  match vs,ds,h with
  |v :: vs,d :: ds,h=>
   obtain⟨p,q,h1,h2,rfl⟩:=h
   rw[List.all_cons,Bool.and_eq_true,Bool.and_eq_true] at ht
   exact⟨p,q,Below.trod hl ht.1.1 (of_decide_eq_true ht.1.2) h1 hb (fun x hx=>hlt x (List.mem_append_left _ hx)),args_stay hl hb ht.2 h2 (fun x hx=>hlt x (List.mem_append_right _ hx)),rfl⟩
end
end Go.Sym
