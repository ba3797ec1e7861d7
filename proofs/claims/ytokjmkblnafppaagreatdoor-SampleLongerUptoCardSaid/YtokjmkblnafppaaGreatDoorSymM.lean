/- A law of the program, from its function over typed data. -/
import Derived.Test.YtokjmkblnafppaaGreatDoorSymL
set_option linter.unusedVariables false
set_option linter.unusedSimpArgs false
namespace Go.Sym
open Go Go.bI Go.RowKit
def Ax:Ty→List Ty
 |.val=>[.int .u8,.int .i64,.str,.sl .val,.bool]
 |.int k=>[.int k]
 |.bool=>[.bool]
 |.str=>[.str]
 |.sl t=>[.sl t]
 |.unit=>[]
 |.prod a b=>Ax a++Ax b
 |.sum _ _=>[]
def Ay:Ty→List cG
 |.val=>[.int .u8,.int .i64,.str,.sl .val .d,.bool]
 |.int k=>[.int k]
 |.bool=>[.bool]
 |.str=>[.str]
 |.sl t=>[.sl t .d]
 |.unit=>[]
 |.prod a b=>Ay a++Ay b
 |.sum _ _=>[]
def flat:(T:Ty)→T.den→List ff
 |.val,v=>[⟨.int .u8,v.kind⟩,⟨.int .i64,v.int⟩,⟨.str,v.text⟩,⟨.sl .val,v.list⟩,⟨.bool,v.cut⟩]
 |.int k,a=>[⟨.int k,a⟩]
 |.bool,b=>[⟨.bool,b⟩]
 |.str,s=>[⟨.str,s⟩]
 |.sl t,l=>[⟨.sl t,l⟩]
 |.unit,_=>[]
 |.prod a b,x=>flat a x.1++flat b x.2
 |.sum _ _,_=>[]
theorem uO:∀ (T:Ty) (x:T.den),(flat T x).map (·.t)=Ax T
 |.val,_=>rfl
 |.int _,_=>rfl
 |.bool,_=>rfl
 |.str,_=>rfl
 |.sl _,_=>rfl
 |.unit,_=>rfl
 |.prod a b,x=>by simp[flat,Ax,uO a,uO b]
 |.sum _ _,_=>rfl
theorem rY:∀ {l l':List cG} {r r' r'':List ff} {xs ys:List Cell},cH l r=some (xs,r')→cH l' r'=some (ys,r'')→cH (l++l') r=some (xs++ys,r'')
 |[],l',r,r',r'',xs,ys,h,h'=>by
  simp only[cH,Option.some.injEq,Prod.mk.injEq] at h
  obtain⟨rfl,rfl⟩:=h
  exact h'
 | c :: l, l', r, r', r'', xs, ys, h, h' => by
  simp only[cH] at h
  split at h
  ·rename_i x r1 h1
   split at h
   ·rename_i VB r2 h2
    injection h with h;injection h with h3 h4;subst h3 h4
    simp only[List.cons_append,cH,h1,rY h2 h']
   ·cases h
  ·cases h
theorem vK:∀ (T:Ty) (x:T.den) (rest:List ff),cH (Ay T) (flat T x++rest)=some (ij T x,rest)
 |.val,_,_=>rfl
 |.int _,_,_=>rfl
 |.bool,_,_=>rfl
 |.str,_,_=>rfl
 |.sl _,_,_=>rfl
 |.unit,_,_=>rfl
 |.prod a b,x,rest=>by
  simp only[Ay,flat,List.append_assoc,ij]
  exact rY (vK a x.1 _) (vK b x.2 rest)
 |.sum _ _,_,_=>rfl
def okD (ds:List ff):Prop:=∀ d∈ds,d.t.ok d.v
theorem D7:∀ (T:Ty) (x:T.den),T.ok x→okD (flat T x)
 |.val,v,h=>by
  cases v
  obtain⟨h1,h2,h3,h4,h5⟩:=h
  intro d hd
  simp only[flat,List.mem_cons,List.not_mem_nil,or_false] at hd
  rcases hd with rfl|rfl|rfl|rfl|rfl
  ·exact h1
  ·exact h2
  ·exact h3
  ·exact⟨h4,n7.D5.1 h5⟩
  ·trivial
 |.int _,_,h=>fun d hd=>by simp[flat] at hd;subst hd;exact h
 |.bool,_,h=>fun d hd=>by simp[flat] at hd;subst hd;exact h
 |.str,_,h=>fun d hd=>by simp[flat] at hd;subst hd;exact h
 |.sl _,_,h=>fun d hd=>by simp[flat] at hd;subst hd;exact h
 |.unit,_,_=>fun d hd=>by simp[flat] at hd
 |.prod a b,x,h=>fun d hd=>by
  simp only[flat,List.mem_append] at hd
  rcases hd with hd|hd
  ·exact D7 a x.1 h.1 d hd
  ·exact D7 b x.2 h.2 d hd
 |.sum _ _,_,_=>fun d hd=>by simp[flat] at hd
theorem xC (a:Ty) (x:a.den):sN a a x=some x:=by
 unfold sN
 split
 ·rfl
 ·rename_i h _;exact absurd rfl h
theorem vL:∀ ds:List ff,∃ x,pack (ds.map (·.t)) ds=some x
 |[]=>⟨(),rfl⟩
 |[d]=>⟨d.v,xC _ _⟩
 |d :: e :: r=>by
  obtain⟨y,hy⟩:=vL (e :: r)
  refine⟨(d.v,y),?_⟩
  have hy':pack (e.t :: r.map (·.t)) (e :: r)=some y:=hy
  show pack (d.t :: e.t :: r.map (·.t)) (d :: e :: r)=some (d.v,y)
  simp only[pack,xC,hy']
abbrev uP:=TypeId×Bool×Ty
def uP.sh (p:uP):dJ:=
 match p.2.1,Ay p.2.2 with
 |false,[c]=>.c c
 |_,l=>.agg l
def iZ (l:List uP):List Ty:=l.flatMap fun p=>Ax p.2.2
def VH (ts:List Ty) (x:(tv ts).den):Prop:=okD (unpack ts x)
theorem Um:∀ l:List uP,DQ (l.map uP.sh)=none
 |[]=>rfl
 |p :: l=>by
  simp only[List.map_cons,uP.sh]
  split<;>rfl
def Ov (P:Program) (p:uP):Bool:=
 match P.underlying p.1 with
 |some (.struct _)=>p.2.1
 |some (.array _ _)=>p.2.1
 |some .bool|some (.int _)|some .string|some (.slice _)=>!p.2.1
 |_=>false
def Gn (P:Program) (rv:Option TypeId) (k:Nat) (p:uP):Prop:=R5 P rv k p.1=some p.2.2∧Ov P p=true
section
variable {H:Type} {enc:TypeId×Value→H} {P:Program} {w:World} {sp:Nat→Bool} {held:Bool} {rv:Option TypeId}
theorem IM {t:TypeId} {v:Value} {b:Nat} {fs:Array Field} (h:Value.okWide P w .any b t v) (hu:P.underlying t=some (.struct fs)):∃ cs,v=.agg cs:=by
 simp only[Value.okWide,hu] at h
 obtain⟨cs,h1,_⟩:=h
 exact⟨cs,h1⟩
theorem IN {t:TypeId} {v:Value} {b n:Nat} {e:TypeId} (h:Value.okWide P w .any b t v) (hu:P.underlying t=some (.array n e)):∃ cs,v=.agg cs:=by
 simp only[Value.okWide,hu] at h
 obtain⟨cs,h1,_⟩:=h
 exact⟨cs,h1⟩
theorem mS {t:TypeId} {v:Value} {b:Nat} {d:TypeDesc} (h:Value.okWide P w .any b t v) (hu:P.underlying t=some d) (hd:d=.bool∨(∃ k,d=.int k)∨d=.string∨∃ e,d=.slice e):v.cells = #[v]:=by
 rcases hd with rfl|⟨k,rfl⟩|rfl|⟨e,rfl⟩<;>cases v<;>first|rfl|(simp[Value.okWide,hu,Cell.okWide,Cell.ok] at h)
def R6 (P:Program) (B:Nat) (t:TypeId):(T:Ty)→T.den→Prop
 |.sl _,l=>∀ e,P.underlying t=some (.slice e)→l.length*P.bytesOf e≤B
 |.str,s=>P.underlying t=some .string→s.length≤B
 |_,_=>True
theorem VI {fuel:Nat} {t:TypeId} {cs:List Value} {d:DataW H} {ps:List MemPlace} (hf:DataW.trod enc P w 0 sp held fuel t cs=some (d,ps)) {T:Ty} {x:T.den} {F:Nat→Nat→Prop} (hx:az (DR w F) (ef T x) cs)
  {B:Nat} (hw:(d.weights P t).all (fun b=>decide (b≤B))=true):R6 P B t T x:=by
 cases fuel with
 |zero=>simp[DataW.trod] at hf
 |succ fuel=>
 cases T with
 | sl T' =>
  intro e he
  match cs,hx with
  | [c], hx =>
   have hd:DR w F (.sl (List.map (ef T') x)) c:=hx.1
   cases hd with
   | sl els a n cap sz b o g hn hcap hsz ha hF hc hr =>
    rw[List.length_map] at hn
    unfold DataW.trod at hf
    rw[he] at hf
    simp only at hf
    split at hf<;>first|(exfalso;have q:=‹some (TypeDesc.slice e)=some _›;injection q with q;cases q;done)|cases hf|skip
    ·rename_i heq
     injection heq with heq;injection heq with _ h2 _
     have:x.length=0:=by omega
     rw[this,Nat.zero_mul]
     exact Nat.zero_le _
    ·rename_i e' a len cap heq
     injection heq with heq;injection heq with heq;subst heq
     split at hf
     ·obtain ⟨elems, hel, hf⟩ := aT hf
      obtain⟨rest,zw,heq⟩:=aM hf
      simp only[Prod.mk.injEq] at heq
      obtain⟨rfl,_⟩:=heq
      have hlen:=(mapM_some hel).1
      rw[List.length_range] at hlen
      simp only[DataW.weights,he,List.all_cons,Bool.and_eq_true,decide_eq_true_eq,List.length_map] at hw
      exact Nat.le_trans (Nat.mul_le_mul_right _ (by omega)) hw.1
     ·cases hf
 | str =>
  intro he
  match cs,hx with
  | [c], hx =>
   have hd:DR w F (.sc (.string ⟨x.toArray⟩)) c:=hx.1
   cases hd with
   |sc v h1=>
    unfold DataW.trod at hf
    rw[he] at hf
    simp only at hf
    split at hf<;>first|(exfalso;have q:=‹some TypeDesc.string=some _›;injection q with q;cases q;done)|cases hf|skip
    simpa[DataW.weights] using hw
 |_=>trivial
def L8 (P:Program) (B:Nat):List uP→List ff→Prop
 |[],_=>True
 |p :: l,ds=>(∃ x:p.2.2.den,(∃ rest,ds=flat p.2.2 x++rest)∧R6 P B p.1 p.2.2 x)∧L8 P B l (ds.drop (Ax p.2.2).length)
def R7 (P:Program) (B:Nat) (l:List uP) (x:(tv (iZ l)).den):Prop:=L8 P B l (unpack (iZ l) x)
def Ox (w:World) (ps:List MemPlace):Cx:={ w,F:=D6 ps,ρ:=fun _=>none,old:=fun b=>b<w.heap.size }
theorem Kp (hg:(∀ b,vl b→b<w.heap.size)∧JI w) (ps:List MemPlace) (hlt:∀ x∈ps,x.block<w.heap.size):aB (Ox w ps) [.lf] .lf where
 ec lv sl e he:=by rw[vw] at he;cases he
 aE v hv:=by simp at hv
 apart k k' v v' L L' a b:=by
  rcases a with⟨_,_,_,_,he,_⟩|⟨_,he⟩
  ·rw[vw] at he;cases he
  ·simp at he
 mI b o h:=hlt _ h
 oq:=⟨fun _ h=>h,hg.1,hg.2⟩
theorem Kq {X:Cx} : ∀ {ds:List D} {cs:List Value},az (DR X.w X.F) ds cs→az (VC X) (ds.map .d) cs
 |[],[],_=>trivial
 |_ :: _,_ :: _,h=>⟨h.1,Kq h.2⟩
 |[],_ :: _,h=>h.elim
 |_ :: _,[],h=>h.elim
theorem VJ (MT:L7 P rv) {k:Nat} {p:uP} (hp:Gn P rv k p) {v:Value} {d:DataW H} {qs ps:List MemPlace} {b:Nat} (hv:Value.okWide P w .any b p.1 v) (h:DataW.Trod enc P w 0 sp held p.1 v d qs) (hsub:∀ q∈qs,q∈ps) :
  ∃ (x:p.2.2.den) (a:AV) (u:V2),p.2.2.ok x∧V1 (Ox w ps) a v∧RV ρ0 0 [] u a∧(∀ rest,dm [p.sh] (flat p.2.2 x++rest)=some ([u],rest))∧(∀ B,(d.weights P p.1).all (fun b=>decide (b≤B))=true→R6 P B p.1 p.2.2 x):=by
 obtain⟨t,ag,T⟩:=p
 obtain⟨hT,hfit⟩:=hp
 simp only at hT hfit hv h ⊢
 obtain⟨fuel,hf⟩:=h
 obtain⟨x,ox,hx⟩:=CM MT fuel _ _ _ _ hf _ _ hT
 have aae:=fun (B:Nat) hw=>VI (x:=x) hf hx (B:=B) hw
 have hx:az (DR (Ox w ps).w (Ox w ps).F) (ef T x) v.cells.toList:=hx.mono fun _ _=>DR.mono fun b o hb=>hsub _ hb
 have Un:=vK T x
 have Kr:(∃ cs,v=.agg cs)→ag=true→∃ (a:AV) (u:V2),V1 (Ox w ps) a v∧RV ρ0 0 [] u a∧∀ rest,dm [uP.sh (t,ag,T)] (flat T x++rest)=some ([u],rest):=by
  rintro⟨cs,rfl⟩ rfl
  refine⟨.agg ((ef T x).map .d),.agg (ij T x),⟨cs,rfl,Kq hx⟩,⟨_,rfl,ke T x⟩,fun rest=>?_⟩
  simp only[uP.sh,dm,ux.fill,Un]
 have uQ : v.cells = #[v] → ag = false → (∃ c, Ay T = [c]) → ∃ (a : AV) (u : V2), V1 (Ox w ps) a v ∧ RV ρ0 0 [] u a ∧ ∀ rest, dm [uP.sh (t, ag, T)] (flat T x ++ rest) = some ([u], rest) := by
  rintro hc rfl ⟨c,hcs⟩
  rw[hc] at hx
  have hl:=hx.length
  simp at hl
  match he:ef T x,hl with
  | [y], _ =>
   rw[he] at hx
   have hcell:=ke (ρ:=ρ0) (B:=0) (m:=[]) T x
   rw[he] at hcell
   match hct:ij T x,hcell with
   | [z], hcell =>
    refine⟨.d y,.c z,?_,hcell.1,fun rest=>?_⟩
    ·exact hx.1
    ·have := Un rest
     rw[hcs,hct] at this
     simp only[cH] at this
     simp only[uP.sh,hcs,dm,ux.fill]
     split at this
     ·rename_i y' r' h1
      simp only[Option.some.injEq,Prod.mk.injEq,List.cons.injEq,and_true] at this
      obtain⟨rfl,rfl⟩:=this
      rfl
     ·cases this
 have fin:(∃ (a:AV) (u:V2),V1 (Ox w ps) a v∧RV ρ0 0 [] u a∧∀ rest,dm [uP.sh (t,ag,T)] (flat T x++rest)=some ([u],rest))→∃ (x:T.den) (a:AV) (u:V2),T.ok x∧V1 (Ox w ps) a v∧RV ρ0 0 [] u a∧(∀ rest,dm [uP.sh (t,ag,T)] (flat T x++rest)=some ([u],rest))∧(∀ B,(d.weights P t).all (fun b=>decide (b≤B))=true→R6 P B t T x):=by
  rintro⟨a,u,h1,h2,h3⟩
  exact⟨x,a,u,ox,h1,h2,h3,aae⟩
 apply fin
 unfold Ov at hfit
 cases hu:P.underlying t with
 |none=>rw[hu] at hfit;cases hfit
 | some desc =>
  rw[hu] at hfit
  cases k with
  |zero=>simp[R5] at hT
  |succ k=>
  have one:∀ {d:TypeDesc},desc=d→(d=.bool∨(∃ k,d=.int k)∨d=.string∨∃ e,d=.slice e)→∃ c,Ay T=[c]:=by
   intro d hd hq
   subst hd
   simp only[R5] at hT
   split at hT
   ·rename_i hr
    obtain⟨fs,_,dw,_⟩:=MT t hr
    rw[hu] at dw
    injection dw with dw
    subst dw
    rcases hq with h|⟨_,h⟩|h|⟨_,h⟩<;>cases h
   ·rw [hu] at hT
    rcases hq with rfl|⟨k,rfl⟩|rfl|⟨e,rfl⟩
    ·injection hT with hT;subst hT;exact⟨_,rfl⟩
    ·injection hT with hT;subst hT;exact⟨_,rfl⟩
    ·injection hT with hT;subst hT;exact⟨_,rfl⟩
    ·simp only at hT
     split at hT
     ·split at hT
      ·injection hT with hT;subst hT;exact⟨_,rfl⟩
      ·cases hT
     ·cases hT
  cases desc with
  |struct fs=>exact Kr (IM hv hu) hfit
  |array n e=>exact Kr (IN hv hu) hfit
  |bool=>exact uQ (mS hv hu (.inl rfl)) (by simpa using hfit) (one rfl (.inl rfl))
  |int kd=>exact uQ (mS hv hu (.inr (.inl ⟨kd,rfl⟩))) (by simpa using hfit) (one rfl (.inr (.inl ⟨kd,rfl⟩)))
  |string=>exact uQ (mS hv hu (.inr (.inr (.inl rfl)))) (by simpa using hfit) (one rfl (.inr (.inr (.inl rfl))))
  |slice e=>exact uQ (mS hv hu (.inr (.inr (.inr ⟨e,rfl⟩)))) (by simpa using hfit) (one rfl (.inr (.inr (.inr ⟨e,rfl⟩))))
  |_=>cases hfit
theorem uR:∀ {l l':List dJ} {r r' r'':List ff} {xs ys:List V2},dm l r=some (xs,r')→dm l' r'=some (ys,r'')→dm (l++l') r=some (xs++ys,r'')
 |[],l',r,r',r'',xs,ys,h,h'=>by
  simp only[dm,Option.some.injEq,Prod.mk.injEq] at h
  obtain⟨rfl,rfl⟩:=h
  exact h'
 | c :: l, l', r, r', r'', xs, ys, h, h' => by
  simp only[dm] at h
  simp only[List.cons_append,dm]
  split at h
  ·rename_i x r1 h1
   split at h
   ·rename_i VB r2 h2
    injection h with h;injection h with h3 h4;subst h3 h4
    simp only[uR h2 h']
    rfl
   ·cases h
  ·cases h
theorem D8 (MT:L7 P rv) {k b:Nat} {ps:List MemPlace} : ∀ {l:List uP} {vs:List Value} {ds:List (DataW H)} {qs:List MemPlace},(∀ p∈l,Gn P rv k p)→(∀ (j:Nat) (p:uP) v,l[j]?=some p→vs[j]?=some v→Value.okWide P w .any b p.1 v)→DataW.TrodAll enc P w 0 sp held (l.map (·.1)) vs ds qs→(∀ q∈qs,q∈ps)→
  ∃ (dd:List ff) (aK:List AV) (us:List V2),okD dd∧dd.map (·.t)=iZ l∧az (V1 (Ox w ps)) aK vs∧az (RV ρ0 0 []) us aK∧(∀ rest,dm (l.map uP.sh) (dd++rest)=some (us,rest))∧(∀ B,(DataW.weightsEach P (l.map (·.1)) ds).all (fun b=>decide (b≤B))=true→L8 P B l dd)
 |[],vs,ds,qs,_,_,h,_=>by
  match vs,ds,h with
  |[],[],_=>exact⟨[],[],[],fun d hd=>(by cases hd),rfl,trivial,trivial,fun _=>rfl,fun _ _=>trivial⟩
 | p :: l, vs, ds, qs, hp, hv, h, hsub => by
  match vs,ds,h with
  | v :: vs, d :: ds, h =>
   obtain⟨p1,q1,h1,h2,rfl⟩:=h
   obtain⟨x,a,u,g1,g2,g3,g4,g4'⟩:=VJ MT (hp p List.mem_cons_self) (hv 0 p v rfl rfl) h1 (fun q hq=>hsub q (List.mem_append_left _ hq))
   obtain⟨dd,aK,us,g5,g6,g7,g8,g9,g9'⟩:=D8 MT (l:=l) (fun q hq=>hp q (List.mem_cons_of_mem _ hq)) (fun j p' v' hj hj'=>hv (j+1) p' v' (by simpa using hj) (by simpa using hj')) h2 (fun q hq=>hsub q (List.mem_append_right _ hq))
   refine⟨flat p.2.2 x++dd,a :: aK,u :: us,?_,?_,⟨g2,g7⟩,⟨g3,g8⟩,fun rest=>?_,fun B hw=>?_⟩
   ·intro e he
    rcases List.mem_append.1 he with he|he
    ·exact D7 _ x g1 e he
    ·exact g5 e he
   ·simp[iZ,uO,g6]
   ·rw [List.append_assoc]
    exact uR (g4 _) (g9 rest)
   ·simp only [List.map_cons, DataW.weightsEach, List.all_append, Bool.and_eq_true] at hw
    refine⟨⟨x,⟨dd,rfl⟩,g4' B hw.1⟩,?_⟩
    have e:(Ax p.2.2).length=(flat p.2.2 x).length:=by rw[←uO p.2.2 x,List.length_map]
    rw[e,List.drop_left]
    exact g9' B hw.2
theorem CN {cm:List (Tr bH)} {lv sl af:Nat} {rv:AV} {b:Bool} (h:fI cm 0 0 lv sl af rv=some (.d (.sc (.bool b)),[])):rv=.d (.sc (.bool b)):=by
 cases rv with
 |d x=>
  simp only[fI,jG,bu,Option.some.injEq,Prod.mk.injEq,and_true] at h
  exact h
 |own els o=>cases o<;>simp[fI,jG,bu,lM] at h
 |agg cs=>
  simp only[fI,jG] at h
  obtain⟨z,_,he⟩:=aM h
  simp at he
 |gZ vs=>
  simp only[fI] at h
  obtain⟨z,_,he⟩:=aM h
  simp at he
 | ref cl cX eZ off len sz =>
  simp only[fI,jG,bu] at h
  split at h
  ·simp at h
  ·split at h
   ·cases h
   ·simp at h
 |ptr=>simp[fI,jG,bu] at h
 |eH=>simp[fI,jG,bu] at h
 |mp=>simp[fI,jG,bu] at h
 |fo=>simp[fI,jG,bu] at h
 |fV f cs=>cases cs<;>simp[fI,jG,bu] at h
theorem YY {bq:Nat→Option TypeId} {md:Nat→bI.Mode} {Fs:Tb} {f:Nat} (VK:P.follows .mixedOrders=true) (jf:∀ f T,bq f=some T→j3 P f T) (Lw:∀ f fn,Fs f=some fn→bL P bq md f=some fn) (hO:cF P Fs.O) (hg:(∀ b,vl b→b<w.heap.size)∧JI w)
  (MT:L7 P rv) {k b:Nat} {l:List uP} (hp:∀ p∈l,Gn P rv k p) {F:(tv (iZ l)).den→Option Bool} (VL:bt Fs f ⟨l.map uP.sh,iZ l,[(false,[.bool])],[.bool],0,F⟩)
  (hF:∀ x,VH (iZ l) x→F x=some true)
  {args:Array Value} {ds:List (DataW H)} {ps:List MemPlace} (hval:∀ (j:Nat) (p:uP) v,l[j]?=some p→args[j]?=some v→Value.okWide P w .any b p.1 v)
  (hargs:DataW.TrodAll enc P w 0 sp held (l.map (·.1)) args.toList ds ps) (hlt:∀ x∈ps,x.block<w.heap.size) :
  Calls P f args w fun e w'=>e=.returned (.bool true)∧Below w.heap.size w w':=by
 obtain⟨dd,aK,us,g1,g2,g3,g4,g5,_⟩:=D8 MT (ps:=ps) hp (fun j p v hj hv=>hval j p v hj (by simpa using hv)) hargs (fun _ h=>h)
 obtain⟨x,hx⟩:∃ x,pack (iZ l) dd=some x:=g2 ▸ vL dd
 have hu:=cO hx
 have hok:VH (iZ l) x:=by unfold VH;rw[hu];exact g1
 obtain⟨vs,h1,h2⟩:=VL.1 (Um l) x true (hF x hok)
 simp only[hu] at h1
 have h5:=g5 []
 rw[List.append_nil,h1] at h5
 injection h5 with h5;injection h5 with h5 _;subst h5
 obtain⟨n0,r,cm,ts,nv,h3,h4⟩:=h2 aK g4
 obtain⟨a',h6,h7⟩:=(h4 [(false,[.bool true])] rfl).1 (show (0:Nat)≠65535 by decide) (.c (.bool true)) rfl 0 0 0
 have ha:a'=.d (.sc (.bool true)):=h7 ρ0 0 []
 subst ha
 have hr:=CN h6
 subst hr
 obtain⟨_,hc⟩:=DI hO VK jf Lw n0 f aK [.lf] .lf 0 _ cm ts nv (h3 n0 (Nat.le_refl _)) (Ox w ps) args (Kp hg ps hlt) (fun _ _=>rfl) g3
 refine hc.mono ?_
 rintro e w' ⟨Y,u,rfl,rfl,hx,hv,_⟩
 cases hv
 exact⟨rfl,hx.below.toBelow⟩
theorem xY {B:Nat} {bq:Nat→Option TypeId} {md:Nat→bI.Mode} {Fs:Tb} {f:Nat} (VK:P.follows .mixedOrders=true) (jf:∀ f T,bq f=some T→j3 P f T) (Lw:∀ f fn,Fs f=some fn→bL P bq md f=some fn) (hO:cF P Fs.O) (hg:(∀ b,vl b→b<w.heap.size)∧JI w)
  (MT:L7 P rv) {k b:Nat} {l:List uP} (hp:∀ p∈l,Gn P rv k p) {F:(tv (iZ l)).den→Option Bool} (VL:bt Fs f ⟨l.map uP.sh,iZ l,[(false,[.bool])],[.bool],0,F⟩)
  (hF:∀ x,VH (iZ l) x→R7 P B l x→F x=some true)
  {args:Array Value} {ds:List (DataW H)} {ps:List MemPlace} (hval:∀ (j:Nat) (p:uP) v,l[j]?=some p→args[j]?=some v→Value.okWide P w .any b p.1 v)
  (hargs:DataW.TrodAll enc P w 0 sp held (l.map (·.1)) args.toList ds ps) (hlt:∀ x∈ps,x.block<w.heap.size) (hwt:(DataW.weightsEach P (l.map (·.1)) ds).all (fun b=>decide (b≤B))=true) :
  Calls P f args w fun e w'=>e=.returned (.bool true)∧Below w.heap.size w w':=by
 obtain⟨dd,aK,us,g1,g2,g3,g4,g5,g6⟩:=D8 MT (ps:=ps) hp (fun j p v hj hv=>hval j p v hj (by simpa using hv)) hargs (fun _ h=>h)
 obtain⟨x,hx⟩:∃ x,pack (iZ l) dd=some x:=g2 ▸ vL dd
 have hu:=cO hx
 have hok:VH (iZ l) x:=by unfold VH;rw[hu];exact g1
 obtain⟨vs,h1,h2⟩:=VL.1 (Um l) x true (hF x hok (by unfold R7;rw[hu];exact g6 B hwt))
 simp only[hu] at h1
 have h5:=g5 []
 rw[List.append_nil,h1] at h5
 injection h5 with h5;injection h5 with h5 _;subst h5
 obtain⟨n0,r,cm,ts,nv,h3,h4⟩:=h2 aK g4
 obtain⟨a',h6,h7⟩:=(h4 [(false,[.bool true])] rfl).1 (show (0:Nat)≠65535 by decide) (.c (.bool true)) rfl 0 0 0
 have ha:a'=.d (.sc (.bool true)):=h7 ρ0 0 []
 subst ha
 have hr:=CN h6
 subst hr
 obtain⟨_,hc⟩:=DI hO VK jf Lw n0 f aK [.lf] .lf 0 _ cm ts nv (h3 n0 (Nat.le_refl _)) (Ox w ps) args (Kp hg ps hlt) (fun _ _=>rfl) g3
 refine hc.mono ?_
 rintro e w' ⟨Y,u,rfl,rfl,hx,hv,_⟩
 cases hv
 exact⟨rfl,hx.below.toBelow⟩
theorem CO (hl:laidOutB P=true) {W W':World} (hb:Below W.heap.size W W'):∀ {ts:List TypeId} {vs:List Value} {ds:List (DataW H)} {ps:List MemPlace},(ts.all fun t=>P.readableRec t&&decide (t<P.types.size))=true→DataW.TrodAll enc P W 0 (fun _=>true) true ts vs ds ps→(∀ x∈ps,x.block<W.heap.size)→
  DataW.TrodAll enc P W' 0 (fun b=>decide (b<W.heap.size)) true ts vs ds ps
 |[],vs,ds,ps,_,h,_=>by
  match vs,ds,h with
  |[],[],h=>exact h
 | t :: ts, vs, ds, ps, ht, h, hlt => by
  match vs,ds,h with
  |v :: vs,d :: ds,h=>
   obtain⟨p,q,h1,h2,rfl⟩:=h
   rw[List.all_cons,Bool.and_eq_true,Bool.and_eq_true] at ht
   exact⟨p,q,Below.trod hl ht.1.1 (of_decide_eq_true ht.1.2) h1 hb (fun x hx=>hlt x (List.mem_append_left _ hx)),CO hl hb ht.2 h2 (fun x hx=>hlt x (List.mem_append_right _ hx)),rfl⟩
end
end Go.Sym
