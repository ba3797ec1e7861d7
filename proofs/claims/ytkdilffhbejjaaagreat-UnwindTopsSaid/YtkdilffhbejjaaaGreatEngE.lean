/- A part of the proof: EngD, EngE. -/
import Derived.Test.YtkdilffhbejjaaaGreatEngB
import Derived.Test.YtkdilffhbejjaaaGreatEngC
import Derived.Laws.StructEq
import Derived.Laws.Slices
import Derived.Laws.Entries
import Derived.Laws.Cells
set_option linter.unusedVariables false
set_option linter.unusedSimpArgs false
namespace Go.bM
open Go Go.RowKit
theorem VR.sc{X:Cx}{u v:Value}(h:VR X (.d (.sc u)) v):v=u:=by cases h;rfl
theorem VR.Bb{X:Cx}{v:Value}(h:v.oneCell'=true):VR X (.d (.sc v)) v:=DR.sc v h
theorem VR.mM{X:Cx}{v:Value}(h:v.oneCell'=true):VR X (mM v) v:=DR.sc v h
theorem vJ{X:Cx}{v:Value}{x:AV}(h:iR v=some x):VC X x v:=by cases v with
 |slice a n c=>
    simp[iR]at h;split at h;.rename_i hv;cases hv;cases h;exact⟨none,0,0,0,rfl,λh=>absurd h (by simp),by simp,λi e j x h=>by simp at h⟩
    all_goals first|(cases h;done)|simp_all
 |agg cs=>simp[iR]at h|tuple cs=>simp[iR]at h|func fn first cap=>
    simp only[iR]at h;split at h
    . split at h;.rename_i h0;cases h;obtain⟨h1,h2⟩:=h0;rw[Array.size_eq_zero_iff]at h1 h2;subst h1;subst h2;exact⟨#[],rfl,trivial⟩
      grind
    grind|_=>simp only[iR]at h;injection h with h;subst h;exact DR.sc _ rfl
theorem mE{X:Cx}:∀{vs:List Value}{xs:List AV},fK vs=some xs->aE (VC X) xs vs
 |[],xs,h=>by grind[fK,VC,aE]|v::r,xs,h=>by
  simp[fK]at h;split at h;.rename_i x xs' h1 h2;cases h;exact⟨vJ h1,mE h2⟩
  grind
theorem VR.kz{X:Cx}{x:AV}{v:Value}(h:VC X x v):VR X x v:=by cases x with|agg cs=>exact h.elim|jF cs=>exact h.elim|_=>exact h
theorem VR.vK{X:Cx}{x:AV}{v:Value}(h:V1 X x v):VR X x v:=by cases x with|jF cs=>exact h.elim|_=>exact h
theorem V1.kz{X:Cx}{x:AV}{v:Value}(h:VC X x v):V1 X x v:=by cases x with|agg cs=>exact h.elim|_=>exact h
theorem Oi{X:Cx}{v:Value}{x:AV}(h:uM v=some x):VR X x v:=by cases v with
 |agg cs=>simp only[uM]at h;cases hc:fK cs.toList with|none=>grind|some xs=>rw[hc]at h;cases h;exact⟨cs,rfl,mE hc⟩
 |tuple vs=>
  simp only[uM]at h;split at h;.rename_i h0;simp at h0;cases h;subst h0;exact⟨#[],rfl,trivial⟩
  grind|_=>exact .kz (vJ h)
theorem oh{X:Cx}:VR X kg undef:=⟨#[],rfl,trivial⟩
structure NT where
 n:Nat
 ds:List Deferred
instance:Coe NT Nat:=⟨NT.n⟩
structure fu(X:Cx)(nt:NT)(s:St)(a:Act):Prop where
 slots:∀t,VR X (dz s.slots t) (a.tmps.getD t undef)size:a.tmps.size=nt.n
 defers:a.defers=nt.ds
 mem:aH X s.mem s.aK
theorem bB{X:Cx}{nt:NT}{s:St}{a:Act}(hs:fu X nt s a){x:Operand}{y:cc}(h:dh x=some y):VR X (y.ev s.slots) (a.eval x):=by cases x with
 |tmp t=>simp[dh]at h;subst h;exact hs.slots t|const v=>cases hc:uM v with|none=>simp[dh,hc]at h|some x=>simp[dh,hc]at h;subst h;exact Oi hc
 |func f=>simp[dh]at h;subst h;exact⟨#[],rfl,trivial⟩|global g=>simp[dh]at h
theorem vL{X:Cx}{nt:NT}{s:St}{a:Act}(hs:fu X nt s a):∀{xs:List Operand}{ys:List cc},jf xs=some ys->aE (VR X) (DF s.slots ys) (xs.map a.eval)
 |[],ys,h=>by grind[jf,DF,VR,aE]|x::r,ys,h=>by
  simp[jf]at h;split at h;.rename_i y ys' h1 h2;cases h;exact⟨bB hs h1,vL hs h2⟩
  grind
theorem om{X:Cx}{x:AV}{v:Value}{b:Bool}(h:jH x=some b)(hv:VR X x v):v=.bool b:=by
 unfold jH at h;split at h;.cases h;exact hv.sc
 grind
theorem Eg{X:Cx}{x:AV}{v:Value}{n:Int}(h:sk x=some n)(hv:VR X x v):∃k,v=.int k n:=by
 unfold sk at h;split at h;.cases h;exact⟨_,hv.sc⟩
 grind
theorem kA{X:Cx}{x:AV}{v:Value}{n:Nat}(h:gz x=some n)(hv:VR X x v):∃k,v=.int k (n:Int):=by unfold gz at h;cases hi:sk x with|none=>grind|some m=>
 rw[hi]at h;simp only[ae]at h;split at h;.obtain⟨k,hk⟩:=Eg hi hv<;>grind
 grind
section
variable{P:Program}
theorem Xc{op:BinOp}{k k':IntKind}{m n:Int}{v:Value}(t:TypeId)(w:World)(h:FR op k m k' n=some v):(binOp op t (.int k m) (.int k' n)).run P w=.ok v w/\v.oneCell'=true:=by
 have plain:∀(f:Value),v=f->f.oneCell'=true->(binOp op t (.int k m) (.int k' n)).run P w=.ok f w->(binOp op t (.int k m) (.int k' n)).run P w=.ok v w/\v.oneCell'=true:=by grind
 by_cases hk:k=k';.subst hk;cases op<;>simp only[FR,Eb,ca,ne_eq,ti,m6]at h<;>first
      |(cases h;done)|(injection h with h;refine plain _ h.symm rfl ?_;simp[binOp,Op.intArith,Op.intBits,Op.intCmp];done)
      | (split at h;.cases h
         .rename_i hn;injection h with h;refine plain _ h.symm rfl ?_;simp[binOp,Op.intDiv,Op.shift,hn])
 .cases op<;>simp only[FR,ne_eq,hk,not_false_eq_true,ii]at h<;>first
      |(cases h;done)
      | (split at h;.cases h
         .rename_i hn;injection h with h;refine plain _ h.symm rfl ?_;simp[binOp,Op.shift,hn])
theorem Xd{op:BinOp}{x y:ByteArray}{v:Value}(t:TypeId)(w:World)(h:KH op x y=some v):(binOp op t (.string x) (.string y)).run P w=.ok v w/\v.oneCell'=true:=by
 have hb:(binOp op t (.string x) (.string y))=Op.stringOp op x y:=by cases op<;>rfl
 rw[hb];cases op with|add=>
  simp only[KH]at h;split at h;.cases h
  .rename_i hn;cases h;exact⟨by simp only[Op.stringOp];rw[be hn];rfl,rfl⟩|_=>simp only[KH]at h<;>first|(cases h;done)|(injection h with h;subst h;exact⟨by simp[Op.stringOp],rfl⟩)
theorem Xe{X:Cx}{op:BinOp}{x y:AV}{u v r:Value}(t:TypeId)(hx:VR X x u)(hy:VR X y v)(h:Q2 op x y=some r):(binOp op t u v).run P X.w=.ok r X.w/\r.oneCell'=true/\((∃k m,u=.int k m)\/∃b,u=.string b):=by
 unfold Q2 at h;split at h;.rw[hx.sc,hy.sc];obtain⟨h1,h2⟩:=Xc (P:=P) t X.w h<;>grind
 .rw[hx.sc,hy.sc];obtain⟨h1,h2⟩:=Xd (P:=P) t X.w h<;>grind
 grind
theorem mF{op:BinOp}{t:TypeId}{x y:Operand}{u v:Value}{w:World}(h1:u≠.nilIface)(h2:∀c,u≠.agg c):(eqGuard op t x y u v).run P w=.ok () w:=by cases u<;>first|(exact absurd rfl h1)|(exact absurd rfl (h2 _))|(cases op<;>rfl)
theorem vM(xs ys:List AV):∀(l m:List (Nat×Nat)),mL xs ys (l++m)=match mL xs ys l with|some true=>mL xs ys m|r=>r
 |[],m=>rfl|o::l,m=>by simp[n3,mL];cases xs[o.1]?with|none=>rfl|some x=>cases ys[o.1]?with|none=>rfl|some y=>simp;cases HW o.2 x y with|none=>rfl|some b=>cases b with|true=>exact vM xs ys l m|false=>rfl
theorem MW{X:Cx}{kd:Nat}{x y:AV}{u v:Value}{b:Bool}(h:HW kd x y=some b)(hx:VC X x u)(hy:VC X y v):(∃p q,kd=0/\u=.bool p/\v=.bool q/\b=(p==q))\/(∃k p q,kd=1/\u=.int k p/\v=.int k q/\b=(p==q))\/∃p q,2<=kd/\u=.string p/\v=.string q/\b=(p==q):=by
  unfold HW at h;split at h
  . split at h;.injection h with h;exact .inl ⟨_,_,rfl,VR.sc (.kz hx),VR.sc (.kz hy),h.symm⟩
    grind
  . split at h
    . split at h;.subst_vars;injection h with h;exact .inr (.inl ⟨_,_,_,rfl,VR.sc (.kz hx),VR.sc (.kz hy),h.symm⟩)
      grind
    grind
  . split at h;.cases h
    .cases h
    .injection h with h;refine .inr (.inr ⟨_,_,?_,VR.sc (.kz hx),VR.sc (.kz hy),h.symm⟩)<;>grind
  grind
theorem Oj{X:Cx}{xs ys:List AV}{us vs:Array Value}(hx:aE (VC X) xs us.toList)(hy:aE (VC X) ys vs.toList){off kd:Nat}{b:Bool}(h:mL xs ys [(off,kd)]=some b):∃u v,us[off]?=some u/\vs[off]?=some v/\((∃p q,kd=0/\u=.bool p/\v=.bool q/\b=(p==q))\/(∃k p q,kd=1/\u=.int k p/\v=.int k q/\b=(p==q))\/∃p q,2<=kd/\u=.string p/\v=.string q/\b=(p==q)):=by
  simp[mL]at h;split at h
  . rename_i x y h1 h2;obtain⟨u,hu,hxu⟩:=hx.get _ _ h1;obtain⟨v,hv,hyv⟩:=hy.get _ _ h2;refine⟨u,v,by simpa using hu,by simpa using hv,?_⟩;split at h;.rename_i h3;cases h;exact MW h3 hxu hyv
    .rename_i h3;cases h;exact MW h3 hxu hyv
    grind
  grind
theorem KL{X:Cx}{xs ys:List AV}{us vs:Array Value}(hx:aE (VC X) xs us.toList)(hy:aE (VC X) ys vs.toList)(w:World):∀(n:Nat)(t:TypeId)(off:Nat)(l:List (Nat×Nat))(sz d:Nat)(b:Bool)(A B:Array Value)(o:Nat),oS P n t off=some l->dB P t=some sz->n<=d->mL xs ys l=some b->(∀j,j<sz->A[o+j]?=us[off+j]?)->(∀j,j<sz->B[o+j]?=vs[off+j]?)->∃p q,(part t A o).run P w=.ok p w/\(part t B o).run P w=.ok q w/\(Op.equalIn d t p q).run P w=.ok b w:=by intro n;induction n with|zero=>intro t off l sz d b A B o h;cases h|succ n ih=>
    intro t off l sz d b A B o h hsz hd hb hA hB;obtain⟨i,hi,hs⟩:∃i,P.info? t=some i/\i.size=sz:=by unfold dB at hsz;cases hi:P.info? t with|none=>rw[hi]at hsz;cases hsz|some i=>rw[hi]at hsz;exact⟨i,rfl,by simpa using hsz⟩
    obtain⟨d,rfl⟩:∃e,d=e+1:=⟨d-1,by omega⟩;simp only[oS,hsz]at h;have basic:∀kd,mL xs ys [(off,kd)]=some b->sz=1->(isAgg t).run P w=.ok false w->(∀p q,kd=0->(Op.equalIn (d+1) t (.bool p) (.bool q)).run P w=.ok (p==q) w)->(∀k p q,kd=1->(Op.equalIn (d+1) t (.int k p) (.int k q)).run P w=.ok (p==q) w)->(∀p q,2<=kd->(Op.equalIn (d+1) t (.string p) (.string q)).run P w=.ok (p==q) w)->∃p q,(part t A o).run P w=.ok p w/\(part t B o).run P w=.ok q w/\(Op.equalIn (d+1) t p q).run P w=.ok b w:=by
      intro kd he h1 yU hb0 pX uP;obtain⟨u,v,hu,hv,hk⟩:=Oj hx hy he;have hA0:=hA 0 (by omega);have hB0:=hB 0 (by omega);simp only[fa]at hA0 hB0;rw[hu]at hA0;rw[hv]at hB0;refine⟨u,v,by simp[part,yU,hA0],by simp[part,yU,hB0],?_⟩;rcases hk with⟨p,q,hk,rfl,rfl,rfl⟩|⟨k,p,q,hk,rfl,rfl,rfl⟩|⟨p,q,hk,rfl,rfl,rfl⟩;.exact hb0 p q hk
      .exact pX k p q hk
      .exact uP p q hk
    split at h;.rename_i h1 hu;injection h with h;subst h;refine basic 0 hb (by simpa using h1) (by simp[isAgg,run_underlying hu]) (λp q _=>by simp[Op.equalIn,run_underlying hu]) (λ_ _ _ h=>by omega) (λ_ _ h=>by omega)
    .rename_i h1 hu;injection h with h;subst h;refine basic 1 hb (by simpa using h1) (by simp[isAgg,run_underlying hu]) (λ_ _ h=>by omega) (λk p q _=>by simp[Op.equalIn,run_underlying hu]) (λ_ _ h=>by omega)
    .rename_i h1 hu;injection h with h;subst h;refine basic 2 hb (by simpa using h1) (by simp[isAgg,run_underlying hu]) (λ_ _ h=>by omega) (λ_ _ _ h=>by omega) (λp q _=>by simp[Op.equalIn,run_underlying hu])
    . rename_i sz' fs h1 hu;injection h1 with h1;subst h1;split at h;.cases h
      . rename_i hst;have hf:P.fieldsOf t=fs:=by simp[Program.fieldsOf,hu]
        refine⟨.agg (A.extract o (o+sz)),.agg (B.extract o (o+sz)),by simp[part,isAgg,run_underlying hu,sizeOf,typeInfo,hi,hs],by simp[part,isAgg,run_underlying hu,sizeOf,typeInfo,hi,hs],?_⟩;rw[run_equalIn_struct w d t _ _ (by rw[hf];exact hu) (by simpa using hst),hf];have hex:∀(C us:Array Value),(∀j,j<sz->C[o+j]?=us[off+j]?)->∀f fz,f+fz<=sz->∀j,j<fz->(C.extract o (o+sz))[f+j]?=us[off+f+j]?:=by
          intro C us hC f fz hfz j hj;rw[Array.getElem?_extract];have:=hC (f+j) (by omega);rw[<-ed,<-ed]at this;split;.rw[<-this,ed]
          .rename_i hn;rw[<-this,Array.getElem?_eq_none (by omega)]
        clear basic hu hf;generalize fs.toList=fl at h;induction fl generalizing l b with|nil=>simp only[List.foldr_nil]at h;injection h with h;subst h;simp only[mL]at hb;injection hb with hb;subst hb;rfl|cons f fl ihf=>
          simp only[List.foldr_cons]at h;split at h
          . rename_i l' fz hl' hfz;split at h;.cases h
            .rename_i hn;obtain⟨hn1,hn2⟩:=rh.1 hn;cases hc:oS P n f.type (off+f.offset)with|none=>rw[hc]at h;cases h|some lf=>
             rw[hc]at h;simp only[ca]at h;injection h with h;subst h;rw[vM]at hb;have step:∀b',mL xs ys lf=some b'->(Op.eqFields d (A.extract o (o+sz)) (B.extract o (o+sz)) (f::fl)).run P w=(if(!b')=true then .ok false w else(Op.eqFields d (A.extract o (o+sz)) (B.extract o (o+sz)) fl).run P w):=by intro b' hb';obtain⟨p,q,hp,hq,he⟩:=ih f.type (off+f.offset) lf fz d b' (A.extract o (o+sz)) (B.extract o (o+sz)) f.offset hc hfz (by omega) hb' (λj hj=>hex A us hA _ fz (by omega) j hj) (λj hj=>hex B vs hB _ fz (by omega) j hj);simp[Op.eqFields,hn1,hp,hq,he]
             cases hlf:mL xs ys lf with|none=>rw[hlf]at hb;cases hb|some b'=>rw[hlf]at hb;rw[step b' hlf];cases b' with|true=>simpa using ihf l' b hb hl'|false=>simp only at hb;injection hb with hb;subst hb;rfl
          .cases h
    .cases h
theorem abf{X:Cx}{t:TypeId}{l:List (Nat×Nat)}{xs ys:List AV}{u v:Value}{b:Bool}(hc:oS P 20 t 0=some l)(hg:P.eqGuardType P.depth t=false)(hst:∃fs,P.underlying t=some (.struct fs))(hx:VR X (.agg xs) u)(hy:VR X (.agg ys) v)(h:mL xs ys l=some b)(x y:Operand):∃us vs,u=.agg us/\v=.agg vs/\(∀op,(eqGuard op t x y u v).run P X.w=.ok () X.w)/\(us.size=((dB P t).getD 0)->vs.size=((dB P t).getD 0)->(Op.equal t u v).run P X.w=.ok b X.w):=by
 obtain⟨us,rfl,hx⟩:=hx;obtain⟨vs,rfl,hy⟩:=hy;refine⟨us,vs,rfl,rfl,λop=>?_,λhus hvs=>?_⟩;.unfold eqGuard;cases op<;>simp[hg]
 .obtain⟨fs,hst⟩:=hst;cases hsz:dB P t with|none=>simp[oS,hsz]at hc|some sz=>
  rw[hsz]at hus hvs;obtain⟨p,q,hp,hq,he⟩:=KL (P:=P) hx hy X.w 20 t 0 l sz Op.maxDepth b us vs 0 hc hsz (by decide) h (λj _=>by simp) (λj _=>by simp);obtain⟨i,hi,hs⟩:∃i,P.info? t=some i/\i.size=sz:=by unfold dB at hsz;cases hi:P.info? t with|none=>rw[hi]at hsz;cases hsz|some i=>rw[hi]at hsz;exact⟨i,rfl,by simpa using hsz⟩
  have ag:∀C:Array Value,C.size=sz->(part t C 0).run P X.w=.ok (.agg C) X.w:=by intro C hC;simp[part,isAgg,run_underlying hst,sizeOf,typeInfo,hi,hs,<-hC]
  simp_all;exact he
end
end Go.bM
namespace Go.bM
open Go Go.RowKit
theorem Bc{w:World}{α:Type}{R:α->Value->Prop}{b o:Nat}:∀(cs:List α),(∀(j:Nat)(x:α),cs[j]?=some x->∃v,w.cell? ⟨b,o+j,none⟩=some v/\R x v)->∃vs:List Value,(∀j u,vs[j]?=some u->w.cell? ⟨b,o+j,none⟩=some u)/\aE R cs vs:=by intro cs;induction cs generalizing o with|nil=>exactλ_=>⟨[],by simp,trivial⟩|cons c cs ih=>
 intro h;obtain⟨v,hv,hr⟩:=h 0 c rfl;obtain⟨vs,h1,h2⟩:=ih (o:=o+1) λj x hj=>by obtain⟨u,hu,hr⟩:=h (j+1) x (by simpa using hj);exact⟨u,by rw[<-hu];congr 2;omega,hr⟩
 refine⟨v::vs,λj u hj=>?_,hr,h2⟩<;>grind
theorem eB{α:Type}{l:List α}{k n j:Nat}{x:α}(h:((l.drop k).take n)[j]?=some x):l[k+j]?=some x/\j<n:=by grind
theorem FZ{X:Cx}{b o off sz:Nat}{e:List D}(h:∀(j:Nat)(x:D),e[j]?=some x->∃u,X.w.cell? ⟨b,o+j,none⟩=some u/\DR X.w X.F x u):∃vs:List Value,(∀j u,vs[j]?=some u->X.w.cell? ⟨b,(o+off)+j,none⟩=some u)/\aE (VC X) (((e.drop off).take sz).map .d) vs:=by refine Bc _ λj x hj=>?_;rw[eJ]at hj;cases hq:((e.drop off).take sz)[j]?with|none=>grind|some y=>rw[hq]at hj;cases hj;obtain⟨u,hu,hd⟩:=h _ _ (eB hq).1;exact⟨u,by rw[<-hu,ed],hd⟩
theorem H7{X:Cx}{m:List (Tr bH)}{t:Tr Unit}(hm:aH X m t){p:AV}{v:Value}{sz:Nat}{cs:List AV}(hv:VR X p v)(h:rR m sz p=some cs):∃b o vs,v=.pointer (some ⟨b,o,none⟩)/\(∀j u,vs[j]?=some u->X.w.cell? ⟨b,o+j,none⟩=some u)/\aE (VC X) cs vs/\cs.length=sz:=by
  unfold rR at h;split at h
  . rename_i lv sl au i off;obtain⟨L,hL,rfl⟩:=hv;split at h
    . rename_i v' cells hg;split at h
      . rename_i nD hi;split at h
        . have nD:=beq_true.1 nD;have hi:=beq_true.1 hi;subst nD;obtain⟨L',hL',hE⟩:=hm.fZ _ _ _ hg;have:X.ρ v'=some L':=hL';rw[hL]at this;cases this;obtain⟨h1,h2,h3,h4⟩:=hE;obtain⟨vs,g1,g2⟩:=Bc (w:=X.w) (R:=VC X) (b:=L.b) (o:=L.o+off) ((cells.drop off).take sz) λj x hj=>by obtain⟨u,hu,hr⟩:=h4 _ _ (eB hj).1;exact⟨u,by rw[<-hu,ed],hr⟩
          grind
        grind
      grind
    . rename_i v' els hg;split at h
      . rename_i nD;split at h
        . rename_i e he;split at h;.have nD:=beq_true.1 nD;subst nD;obtain⟨L',hL',hE⟩:=hm.fZ _ _ _ hg;have:X.ρ v'=some L':=hL';rw[hL]at this;cases this;obtain⟨h1,h2,h3,h4⟩:=hE;obtain⟨vs,g1,g2⟩:=FZ (X:=X) (b:=L.b) (o:=L.o+i*L.sz) (off:=off) (sz:=sz) (e:=e) λj x hj=>h4 i e j x he hj<;>grind
          grind
        grind
      grind
    . rename_i v' els hg;split at h
      . rename_i nD;split at h
        . rename_i e he;split at h;.have nD:=beq_true.1 nD;subst nD;obtain⟨L',hL',hE⟩:=hm.fZ _ _ _ hg;have:X.ρ v'=some L':=hL';rw[hL]at this;cases this;obtain⟨vs,g1,g2⟩:=FZ (X:=X) (b:=L.b) (o:=L.o+i*L.sz) (off:=off) (sz:=sz) (e:=e) λj x hj=>(hE.2.2 i e j x he hj).2<;>grind
          grind
        grind
      grind
    .cases h
    grind
  . rename_i e off;split at h;.obtain⟨b,o,rfl,h4⟩:=hv;obtain⟨vs,g1,g2⟩:=FZ (X:=X) (b:=b) (o:=o) (off:=off) (sz:=sz) (e:=e) λj x hj=>(h4 j x hj).2<;>grind
    grind
  grind
section
variable{P:Program}
theorem fH{t:TypeId}{sz:Nat}(h:dB P t=some sz):∃i,P.info? t=some i/\i.size=sz:=by simp_all[dB]
theorem Bd{t:TypeId}{b:Bool}(h:oe P t=some b)(w:World):(isAgg t).run P w=.ok b w:=by
 unfold oe at h;split at h;.rename_i hu;cases h;simp[isAgg,run_underlying hu]
 .rename_i hu;cases h;simp[isAgg,run_underlying hu]
 .rename_i d h1 h2 hu;simp only[isAgg,Sem.run_bind,run_underlying hu,Result.andThen_ok]<;>simp_all
 grind
theorem Be{X:Cx}{t:TypeId}{sz:Nat}{agg:Bool}{b o:Nat}{cs:List AV}{vs:List Value}{r:AV}(hsz:dB P t=some sz)(yU:oe P t=some agg)(h1:agg=true\/sz=1)(hc:∀j u,vs[j]?=some u->X.w.cell? ⟨b,o+j,none⟩=some u)(h2:aE (VC X) cs vs)(hl:cs.length=sz)(hr:gX agg cs=some r):∃v,(loadVar t ⟨b,o,none⟩).run P X.w=.ok v X.w/\V1 X r v:=by
 obtain⟨i,hi,hs⟩:=fH hsz;have yU:=Bd yU X.w;have DH:∀j u,vs[j]?=some u->X.w.cell? ((⟨b,o,none⟩:Addr).add j)=some u:=λj u h=>by rw[Addr.add_lit];exact hc j u h
 cases agg with|true=>
  have hl':vs.length=sz:=by rw[<-h2.length,hl]
  have:=run_loadCells_list (P:=P) X.w ⟨b,o,none⟩ vs DH;rw[hl']at this;cases hr;exact⟨.agg vs.toArray,by simp[loadVar,yU,sizeOf,typeInfo,hi,hs,this],vs.toArray,rfl,by simpa using h2⟩|false=>
  simp[gX]at hr;split at hr;.simp_all;match vs,h2 with|[u],h2=>have:=hc 0 u rfl;simp at this;exact⟨u,by simp[loadVar,yU,this],.kz h2.1⟩|[],h2=>exact h2.elim|_::_::_,h2=>exact h2.2.elim
  grind
theorem jK(a:Addr)(w:World):(Instr.sureAddr (.pointer (some a))).run P w=.ok a w:=rfl
def Quiet(P:Program)(X:Cx)(o:Oper)(a:Act)(val:AV):Prop:=∃v,(execOp a.eval o).run P X.w=.ok (.value v) X.w/\VR X val v
variable{X:Cx}{nt:NT}{s:St}{a:Act}
theorem mG(hs:fu X nt s a){o:Oper}{t:TypeId}{x:Operand}{y:cc}{sz:Nat}{agg:Bool}{cs:List AV}{r:AV}(ho:o.op=.load t x)(hsz:dB P t=some sz)(yU:oe P t=some agg)(h1:agg=true\/sz=1)(hx:dh x=some y)(hl:rR s.mem sz (y.ev s.slots)=some cs)(hr:gX agg cs=some r):Quiet P X o a r:=by obtain⟨b,off,vs,hv,hc,h2,hlen⟩:=H7 hs.mem (bB hs hx) hl;obtain⟨v,hrun,hV⟩:=Be (P:=P) hsz yU h1 hc h2 hlen hr;exact⟨v,by simp[execOp,ho,Instr.loadAt,hv,jK,hrun],.vK hV⟩
theorem Xf(hs:fu X nt s a){o:Oper}{c x y:Operand}{c' x' y':cc}{b:Bool}(ho:o.op=.pick c x y)(hc:dh c=some c')(hx:dh x=some x')(hy:dh y=some y')(hb:jH (c'.ev s.slots)=some b):Quiet P X o a (if b then x'.ev s.slots else y'.ev s.slots):=by
 have:=om hb (bB hs hc);refine⟨if b then a.eval x else a.eval y,by simp[execOp,ho,this,asBool],?_⟩;cases b;.exact bB hs hy
 .exact bB hs hx
theorem abg(hs:fu X nt s a){o:Oper}{op:BinOp}{t u:TypeId}{x y:Operand}{x' y':cc}{r:Value}(ho:o.op=.binOp op t x y u)(hx:dh x=some x')(hy:dh y=some y')(h:Q2 op (x'.ev s.slots) (y'.ev s.slots)=some r):Quiet P X o a (mM r):=by
 obtain⟨h1,h2,h3⟩:=Xe (P:=P) t (bB hs hx) (bB hs hy) h;refine⟨r,?_,.mM h2⟩;have hg:(eqGuard op t x y (a.eval x) (a.eval y)).run P X.w=.ok () X.w:=by rcases h3 with⟨k,m,h3⟩|⟨m,h3⟩<;>rw[h3]<;>exact mF (by simp) (by simp)
 simp[execOp,ho,hg,h1]
theorem abh(hs:fu X nt s a){o:Oper}{neg:Bool}{t u:TypeId}{x y:Operand}{x' y':cc}{p q:Bool}(ho:o.op=.binOp (if neg then .neq else .eql) t x y u)(ht:P.underlying t=some .bool)(hx:dh x=some x')(hy:dh y=some y')(hp:jH (x'.ev s.slots)=some p)(hq:jH (y'.ev s.slots)=some q):Quiet P X o a (mM (.bool (if neg then !(p==q)else p==q))):=by
 have h1:=om hp (bB hs hx);have h2:=om hq (bB hs hy);refine⟨.bool (if neg then !(p==q)else p==q),?_,.mM rfl⟩;have hg:∀op,(eqGuard op t x y (.bool p) (.bool q)).run P X.w=.ok () X.w:=λop=>mF (by simp) (by simp);have he':∀d,(Op.equalIn (d+1) t (.bool p) (.bool q)).run P X.w=.ok (p==q) X.w:=λd=>by simp[Op.equalIn,run_underlying ht]
 have he:(Op.equal t (.bool p) (.bool q)).run P X.w=.ok (p==q) X.w:=he' 9999;cases neg<;>simp[execOp,ho,h1,h2,hg,binOp,he]
theorem Xg{y:Operand}(h:dh y=some (.c (.d (.sc .nilIface)))):y=.const .nilIface:=by cases y with|tmp t=>simp[dh]at h|func f=>simp[dh]at h|global g=>simp[dh]at h|const v=>simp[dh]at h;cases hc:uM v with|none=>grind|some z=>
      rw[hc]at h;cases h;have key:∀{u:Value},iR u=some (.d (.sc .nilIface))->u=.nilIface:=by
        intro u hu;unfold iR at hu;split at hu;.simp at hu
        .cases hu
        .cases hu
        .cases hu
        . rename_i fn first cap
          cases fn with|func f=>
            by_cases hz:first.size=0/\cap.size=0;.simp at hu
            .simp at hu|_=>cases hu
        .simp at hu;exact hu
      unfold uM at hc;split at hc;.obtain⟨_,_,h⟩:=fd.1 hc;simp at h
      . split at hc;.simp at hc
        .cases hc
      .rw[key hc]
theorem H8(hs:fu X nt s a){o:Oper}{neg:Bool}{t u:TypeId}{ms:Array (String×TypeId)}{x y:Operand}{x':cc}(ho:o.op=.binOp (if neg then .neq else .eql) t x y u)(ht:P.underlying t=some (.interface ms))(hx:dh x=some x')(hy:dh y=some (.c (.d (.sc .nilIface)))):(x'.ev s.slots=.d .er->Quiet P X o a (mM (.bool neg)))/\(x'.ev s.slots=.d (.sc .nilIface)->Quiet P X o a (mM (.bool !neg))):=by
  have hyc:=Xg hy;subst hyc;have Xh:a.eval (.const .nilIface)=.nilIface:=rfl;constructor
  . intro hq;have hv:=bB hs hx;rw[hq]at hv;have h0:∃tt p,a.eval x=.iface tt p:=by revert hv;intro hv;cases hv with|er v h1=>exact h1
    obtain⟨tt,p,h1⟩:=h0;refine⟨.bool neg,?_,.mM rfl⟩;have hg:∀op,(eqGuard op t x (.const .nilIface) (.iface tt p) .nilIface).run P X.w=.ok () X.w:=λop=>mF (by simp) (by simp);have he':∀d,(Op.equalIn (d+1) t (.iface tt p) .nilIface).run P X.w=.ok false X.w:=λd=>by simp[Op.equalIn,run_underlying ht]
    have he:(Op.equal t (.iface tt p) .nilIface).run P X.w=.ok false X.w:=he' 9999;cases neg<;>simp[execOp,ho,h1,Xh,hg,binOp,he]
  . intro hq;have hv:=bB hs hx;rw[hq]at hv;have h1:a.eval x=.nilIface:=by revert hv;generalize a.eval x=u;intro hv;cases hv with|sc v h1=>rfl
    refine⟨.bool !neg,?_,.mM rfl⟩;have hg:∀op,(eqGuard op t x (.const .nilIface) .nilIface .nilIface).run P X.w=.ok () X.w:=λop=>by cases op<;>simp[eqGuard]
    have he':∀d,(Op.equalIn (d+1) t .nilIface .nilIface).run P X.w=.ok true X.w:=λd=>by simp[Op.equalIn,run_underlying ht]
    have he:(Op.equal t .nilIface .nilIface).run P X.w=.ok true X.w:=he' 9999;cases neg<;>simp[execOp,ho,h1,Xh,hg,binOp,he]
theorem Rc(hs:fu X nt s a){o:Oper}{neg:Bool}{t u:TypeId}{fs:Array Field}{l:List (Nat×Nat)}{sz:Nat}{x y:Operand}{x' y':cc}{xs ys:List AV}{b:Bool}(ho:o.op=.binOp (if neg then .neq else .eql) t x y u)(ht:P.underlying t=some (.struct fs))(hg:P.eqGuardType P.depth t=false)(hc:oS P 20 t 0=some l)(hsz:dB P t=some sz)(hx:dh x=some x')(hy:dh y=some y')(h1:x'.ev s.slots=.agg xs)(h2:y'.ev s.slots=.agg ys)(h3:xs.length=sz)(h4:ys.length=sz)(hb:mL xs ys l=some b):Quiet P X o a (mM (.bool (if neg then !b else b))):=by
 have g1:=bB hs hx;have g2:=bB hs hy;rw[h1]at g1;rw[h2]at g2;have s1:∃us,a.eval x=.agg us/\us.size=sz:=by obtain⟨us,e,hh⟩:=g1;exact⟨us,e,by rw[<-h3,hh.length,ft]⟩
 have s2:∃us,a.eval y=.agg us/\us.size=sz:=by obtain⟨us,e,hh⟩:=g2;exact⟨us,e,by rw[<-h4,hh.length,ft]⟩
 obtain⟨us,vs,e1,e2,Zx,he2⟩:=abf (P:=P) hc hg ⟨fs,ht⟩ g1 g2 hb x y;obtain⟨us',e1',s1⟩:=s1;obtain⟨vs',e2',s2⟩:=s2;rw[e1]at e1';rw[e2]at e2';injection e1' with e1';injection e2' with e2';subst e1';subst e2';have he:=he2 (by rw[hsz];exact s1) (by rw[hsz];exact s2);refine⟨.bool (if neg then !b else b),?_,.mM rfl⟩;rw[e1,e2]at Zx he;cases neg<;>simp[execOp,ho,e1,e2,Zx,binOp,he]
theorem afJ(hs:fu X nt s a){o:Oper}{op:UnOp}{t:TypeId}{x:Operand}{x':cc}{r:Value}(ho:o.op=.unOp op t x)(hx:dh x=some x')(h:unA op (x'.ev s.slots)=some r):Quiet P X o a (mM r):=by
 have hv:=bB hs hx;unfold unA at h;split at h;.rename_i hq;rw[hq]at hv;have hv:=hv.sc;cases op<;>simp only at h<;>first|(cases h;done)|(cases h;exact⟨_,by simp[execOp,ho,hv,Op.unary],.mM rfl⟩)
 .rename_i hq;rw[hq]at hv;have hv:=hv.sc;cases op<;>simp only[Eb,ca]at h<;>first|(cases h;done)|(injection h with h;subst h;exact⟨_,by simp[execOp,ho,hv,Op.unary,Op.intArith,Op.intBits],.mM rfl⟩)
 grind
theorem Xi(hs:fu X nt s a){o:Oper}{src dst:TypeId}{k:IntKind}{x:Operand}{x':cc}{n:Int}(ho:o.op=.convert src dst x)(ht:P.underlying dst=some (.int k))(hsrc:(P.underlying src).isSome=true)(hx:dh x=some x')(h:sk (x'.ev s.slots)=some n):Quiet P X o a (mM (.int k (k.wrap n))):=by obtain⟨k',hv⟩:=Eg h (bB hs hx);obtain⟨d,hd⟩:=Option.isSome_iff_exists.1 hsrc;refine⟨.int k (k.wrap n),?_,.mM rfl⟩;simp[execOp,ho,hv,convert,run_underlying ht,run_underlying hd,Conv.intToInt]
theorem KM(hs:fu X nt s a){o:Oper}{x:Operand}{x':cc}{i:Nat}{vs:List AV}{r:AV}(ho:o.op=.extract x i)(hx:dh x=some x')(h:x'.ev s.slots=.jF vs)(hr:vs[i]?=some r):Quiet P X o a r:=by
 have hv:=bB hs hx;rw[h]at hv;obtain⟨us,e,h2⟩:=hv;obtain⟨u,hu,h3⟩:=h2.get _ _ hr;refine⟨u,?_,.vK h3⟩;have:us[i]?=some u:=by grind
 simp[execOp,ho,e,Instr.extract,this]
theorem MX{t:TypeId}{off sz:Nat}{agg:Bool}{cs:List AV}{us:Array Value}{r:AV}(hsz:dB P t=some sz)(yU:oe P t=some agg)(h1:agg=true\/sz=1)(hc:aE (VC X) cs us.toList)(hle:off+sz<=cs.length)(hr:gX agg ((cs.drop off).take sz)=some r):∃v,(part t us off).run P X.w=.ok v X.w/\V1 X r v:=by obtain⟨i,hi,hs⟩:=fH hsz;have yU:=Bd yU X.w;cases agg with|true=>cases hr;refine⟨.agg (us.extract off (off+sz)),by simp[part,yU,sizeOf,typeInfo,hi,hs],us.extract off (off+sz),rfl,?_⟩;have:=(hc.drop off).take sz<;>simp_all|false=>
    have hsz:sz=1:=h1.resolve_left (by simp);subst hsz;simp[gX]at hr;split at hr
    . rename_i v hv;simp_all;subst hr;have:cs[off]?=some v:=by
       have:((cs.drop off).take 1)[0]?=some v:=by grind
       grind
      obtain⟨u,hu,h3⟩:=hc.get _ _ this;refine⟨u,?_,.kz h3⟩;have:us[off]?=some u:=by grind
      simp[part,yU,this]
    grind
theorem Re(hs:fu X nt s a){o:Oper}{t:TypeId}{fs:Array Field}{f:Field}{j sz:Nat}{agg:Bool}{x:Operand}{x':cc}{cs:List AV}{r:AV}(ho:o.op=.field t x j)(ht:P.underlying t=some (.struct fs))(hf:fs[j]?=some f)(hsz:dB P f.type=some sz)(yU:oe P f.type=some agg)(h1:agg=true\/sz=1)(hx:dh x=some x')(h:x'.ev s.slots=.agg cs)(hle:f.offset+sz<=cs.length)(hr:gX agg ((cs.drop f.offset).take sz)=some r):Quiet P X o a r:=by have hv:=bB hs hx;rw[h]at hv;obtain⟨us,e,h2⟩:=hv;obtain⟨v,hrun,hV⟩:=MX (P:=P) hsz yU h1 h2 hle hr;refine⟨v,?_,.vK hV⟩;simp[execOp,ho,e,Instr.field,run_underlying ht,hf,asAgg,hrun]
theorem Ol(hs:fu X nt s a){o:Oper}{t e:TypeId}{n k sz:Nat}{agg:Bool}{x i:Operand}{x' i':cc}{cs:List AV}{r:AV}(ho:o.op=.index t x i)(ht:P.underlying t=some (.array n e))(hsz:dB P e=some sz)(yU:oe P e=some agg)(h1:agg=true\/sz=1)(hx:dh x=some x')(hi:dh i=some i')(h:x'.ev s.slots=.agg cs)(hk:gz (i'.ev s.slots)=some k)(hkn:k<n)(hle:k*sz+sz<=cs.length)(hr:gX agg ((cs.drop (k*sz)).take sz)=some r):Quiet P X o a r:=by have hv:=bB hs hx;rw[h]at hv;obtain⟨us,he,h2⟩:=hv;obtain⟨kd,hik⟩:=kA hk (bB hs hi);obtain⟨v,hrun,hV⟩:=MX (P:=P) hsz yU h1 h2 hle hr;obtain⟨j,hj,F0⟩:=fH hsz;refine⟨v,?_,.vK hV⟩;simp[execOp,ho,he,hik,Instr.index,asIntOf,run_underlying ht,sizeOf,typeInfo,hj,F0,hkn,hrun]
theorem Om(hs:fu X nt s a){o:Oper}{t:TypeId}{k:Nat}{x i:Operand}{x' i':cc}{b:ByteArray}{c:UInt8}(ho:o.op=.index t x i)(ht:P.underlying t=some .string)(hx:dh x=some x')(hi:dh i=some i')(h:x'.ev s.slots=.d (.sc (.string b)))(hk:gz (i'.ev s.slots)=some k)(hc:b.data.toList[k]?=some c):Quiet P X o a (mM (.int .u8 c.toNat)):=by
 have hv:=bB hs hx;rw[h]at hv;have hv:=hv.sc;obtain⟨kd,hik⟩:=kA hk (bB hs hi);refine⟨_,?_,.mM rfl⟩;have hlt:k<b.size:=by have:=(cf.1 hc).1<;>simp_all
 have hb:b[k]?=some c:=by rw[getElem?_pos b k hlt];have:=(cf.1 hc).2;congr 1
 simp[execOp,ho,hv,hik,Instr.index,asIntOf,run_underlying ht,hb]
theorem vN(hs:fu X nt s a){o:Oper}{t:TypeId}{fs:Array Field}{f:Field}{j sz:Nat}{x:Operand}{x':cc}{r:AV}(ho:o.op=.fieldAddr t x j)(ht:P.underlying t=some (.struct fs))(hf:fs[j]?=some f)(hsz:dB P f.type=some sz)(h0:sz≠0)(hx:dh x=some x')(hr:(∃lv sl au i off,x'.ev s.slots=.ptr lv sl au i off/\r=.ptr lv sl au i (off+f.offset))\/∃e off,x'.ev s.slots=.fW e off/\r=.fW e (off+f.offset)):Quiet P X o a r:=by
 have hv:=bB hs hx;obtain⟨i,hi,hsi⟩:=fH hsz;have run:∀b off,(execOp a.eval o).run P X.w=(Sem.run P (do let v<-Instr.fieldAt t (.pointer (some ⟨b,off,none⟩)) j;pure (Next.value v)) X.w)->(execOp a.eval o).run P X.w=.ok (.value (.pointer (some ⟨b,off+f.offset,none⟩))) X.w:=by intro b off h;rw[h];simp[Instr.fieldAt,run_underlying ht,hf,jK,fieldPlace,sizeOf,typeInfo,hi,hsi,h0,Addr.add_lit]
 rcases hr with⟨lv,sl,au,i',off,hq,rfl⟩|⟨e,off,hq,rfl⟩;.rw[hq]at hv;obtain⟨L,hL,hv⟩:=hv;refine⟨_,run L.b (L.o+i'*L.sz+off) (by simp only[execOp,ho,hv]),L,hL,by rw[ed]⟩
 .rw[hq]at hv;obtain⟨b,o',hv,h⟩:=hv;exact⟨_,run b (o'+off) (by simp only[execOp,ho,hv]),b,o',by rw[ed],h⟩
end
end Go.bM
