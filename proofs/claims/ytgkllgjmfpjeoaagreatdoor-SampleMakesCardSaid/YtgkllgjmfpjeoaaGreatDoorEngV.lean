/- What an operation depends on. -/
import Derived.Test.YtgkllgjmfpjeoaaGreatDoorEngU
set_option linter.unusedVariables false
set_option linter.unusedSimpArgs false
namespace Go.bJ
open Go
def j6(s:St)(k:Nat×Nat×Nat):Option bB×Option Unit:=if k.1=0then(aK s.mem k.2.1 k.2.2,none)else if k.1=1/\k.2.2=0then(none,s.aI.get? k.2.1)else(none,none)
theorem Fl{s s':St}{lv sl:Nat}(h:j6 s' (cq lv sl)=j6 s (cq lv sl)):aK s'.mem lv sl=aK s.mem lv sl:=by simpa[j6,cq]using h
theorem Vv{s s':St}{v:Nat}(h:j6 s' (jW v)=j6 s (jW v)):s'.aI.get? v=s.aI.get? v:=by simpa[j6,jW]using h
def cG(m m':List (Tr bB))(ks:List (Nat×Nat×Nat)):Prop:=∀lv sl,cq lv sl∈ks->aK m' lv sl=aK m lv sl
section
variable{m m':List (Tr bB)}
theorem lZ{lv sl ah:Nat}(h:aK m' lv sl=aK m lv sl):rowAt m' lv sl ah=rowAt m lv sl ah:=by unfold rowAt;rw[h]
theorem l5{ks:List (Nat×Nat)}(h:cG m m' (iE ks)):dV m' ks=dV m ks:=List.map_congr_left λk hk=>by rw[h k.1 k.2 (List.mem_map.2 ⟨k,hk,rfl⟩)]
theorem yd{lv sl ah:Nat}(h:aK m' lv sl=aK m lv sl):nZ m' lv sl ah=nZ m lv sl ah:=by unfold nZ;rw[h]
theorem ye{lv sl ah:Nat}(h:aK m' lv sl=aK m lv sl):setAt m' lv sl ah=setAt m lv sl ah:=by unfold setAt;rw[h]
theorem J6{row t t' d:Nat}:(tU row t d).2=(tU row t' d).2:=by grind[tU]
theorem iH{x:AV}(h:cG m m' (cZ x)):dc m' x=dc m x:=by cases x with|ref lv sl ah off n sz=>simp[dc];grind[cZ,cG,qJ]|d x=>cases x<;>rfl|_=>rfl
theorem jh{x:AV}(h:cG m m' (cZ x)):gi m' x=gi m x:=by
 unfold gi;split;.rfl
 .exact iH h
theorem NT{x:AV}(h:cG m m' (cZ x)):zn m' x=zn m x:=by cases x with|ref lv sl ah off n sz=>simp[zn];rw[iH h]|own els o=>cases o<;>rfl|_=>rfl
theorem QL{x:AV}{y:D}{ks:List (Nat×Nat)}(h:zn m x=some (y,ks))(hs:cG m m' (iE ks)):zn m' x=some (y,ks):=by cases x with
 |ref lv sl ah off n sz=>simp only[zn]at h⊢;cases he:dc m (.ref lv sl ah off n sz)with|none=>grind|some els=>rw[he]at h;cases h;rw[iH (m:=m) (λcL dU hk=>hs cL dU (by simpa[cZ,iE]using hk)),he];rfl
 |own els o=>cases o<;>exact h|_=>exact h
theorem wX:∀{l:List AV}{ys:List D}{ks:List (Nat×Nat)},CI m l=some (ys,ks)->cG m m' (iE ks)->CI m' l=some (ys,ks)
 |[],_,_,h,_=>h|x::r,ys,ks,h,hs=>by
  simp[CI]at h⊢;split at h;.rename_i y k ys' ks' h1 h2;cases h;rw[QL h1 λlv sl hk=>hs lv sl (by simp only[iE,List.map_append,List.mem_append]at hk⊢;exact .inl hk),wX h2 λlv sl hk=>hs lv sl (by simp only[iE,List.map_append,List.mem_append]at hk⊢;exact .inr hk)]
  grind
theorem J7{x:AV}{ys:List D}{ks:List (Nat×Nat)}(h:C7 m x=some (ys,ks))(hs:cG m m' (iE ks)):C7 m' x=some (ys,ks):=by unfold C7 at h⊢;cases hc:cellsOf x with|none=>grind|some cs=>rw[hc]at h;exact wX h hs
theorem ug{s:Tr AV}{sz:Nat}:∀{ps:List (Nat×bT)}{els els':List (List D)}{ks:List (Nat×Nat)},oY m s sz els ps=some (els',ks)->cG m m' (iE ks)->oY m' s sz els ps=some (els',ks)
 |[],_,_,_,h,_=>h|(i,x)::r,els,els',ks,h,hs=>by
  simp[oY]at h⊢;split at h
  .rename_i e ks1 he;split at h
   .rename_i hc;split at h;.rename_i wU ks2 hf;cases h;rw[J7 he λlv sl hk=>hs lv sl (by simp[iE,List.map_append,List.mem_append]at hk⊢;exact .inl hk)];simp[hc,and_self,if_true];rw[ug hf λlv sl hk=>hs lv sl (by simp[iE,List.map_append,List.mem_append]at hk⊢;exact .inr hk)]
    grind
   grind
  grind
theorem Hx{sz:Nat}{x:AV}(h:cG m m' (cZ x)):qN m' sz x=qN m sz x:=by cases x with|ptr lv sl ah i off=>grind[cZ,cG,qN]|_=>rfl
theorem Fm{sz:Nat}{p v:AV}{e:fH}(h:p8 m sz p v=some e)(hs:cG m m' e.rd):p8 m' sz p v=some e:=by
 unfold p8 at h⊢;split at h
 .rename_i lv sl ah i off new hc;have key:cq lv sl∈e.rd->aK m' lv sl=aK m lv sl:=λhk=>hs lv sl hk;split at h
  .split at h;.grind
   .rename_i v' els hg;split at h
    .rename_i h1;split at h
     .rename_i e' ds ks hi hd;split at h;.cases h;rw[wX hd λlv sl hk=>hs lv sl (List.mem_cons_of_mem _ hk)];have hfr:dV m' ks=dV m ks:=l5 (m:=m) λlv sl hk=>hs lv sl (List.mem_cons_of_mem _ hk)<;>grind
      grind
     grind
    grind
   .cases h
   .cases h
   grind
  grind
 omega
theorem nD{x:AV}(h:cG m m' (cZ x)):cP m' x=cP m x:=by cases x with|ref lv sl ah off n sz=>simp[cP];rw[iH h]|own els o=>cases o<;>rfl|gp f c=>cases c<;>rfl|_=>rfl
theorem rH{x:AV}(h:cG m m' (cZ x)):ef m' x=ef m x:=by
 unfold ef;split;.rfl
 .rfl
 .rw[NT h]
theorem mC:∀{l:List AV},cG m m' (l.flatMap cZ)->ff m' l=ff m l|[],_=>rfl|x::r,h=>by simp[ff];rw[rH λlv sl hk=>h lv sl (by simp[hk]),mC λlv sl hk=>h lv sl (by simp only[List.flatMap_cons,List.mem_append];exact .inr hk)]
theorem J8{x:AV}(h:cG m m' (ec x)):wN m' x=wN m x:=by cases x with|agg cs=>simp[wN];rw[mC h]|_=>simp only[wN];rw[nD h]
theorem yf:∀{l:List AV},cG m m' (l.flatMap ec)->qK m' l=qK m l|[],_=>rfl|x::r,h=>by simp[qK];rw[J8 λlv sl hk=>h lv sl (by simp[hk]),yf λlv sl hk=>h lv sl (by simp only[List.flatMap_cons,List.mem_append];exact .inr hk)]
end
section
variable{m:List (Tr bB)}
theorem NU{x:AV}{y:D}{ks:List (Nat×Nat)}(h:zn m x=some (y,ks)):∀p∈ks,cq p.1 p.2∈cZ x:=by cases x with
 |ref lv sl ah off n sz=>obtain⟨els,_,h⟩:=aN h<;>grind[zn,cq,cZ]|d x=>cases h;simp|own els o=>cases o<;>simp only[zn]at h<;>first|(injection h with h;injection h with _ h2;subst h2;simp)|cases h
 |_=>cases h
theorem rI{x y:AV}{ks:List (Nat×Nat)}(h:ef m x=some (y,ks)):∀p∈ks,cq p.1 p.2∈cZ x:=by
 unfold ef at h;split at h;.grind
 .grind
 .obtain⟨⟨z,k⟩,h1,h⟩:=aN h;cases h;exact NU h1
theorem mD:∀{xs ys:List AV}{ks:List (Nat×Nat)},ff m xs=some (ys,ks)->∀p∈ks,cq p.1 p.2∈xs.flatMap cZ
 |[],_,_,h=>by cases h;simp|x::r,_,_,h=>by
  simp[ff]at h;split at h
  .rename_i h1 h2;cases h;intro p hp;rw[List.flatMap_cons,List.mem_append];rcases List.mem_append.1 hp with hp|hp;.exact .inl (rI h1 p hp)
   .exact .inr (mD h2 p hp)
  grind
theorem J9{x y:AV}{ks:List (Nat×Nat)}(h:wN m x=some (y,ks)):∀p∈ks,cq p.1 p.2∈ec x:=by
 have one:(cP m x).map (λy=>(y,([]:List (Nat×Nat))))=some (y,ks)->∀p∈ks,cq p.1 p.2∈ec x:=by simp_all
 cases x with|agg cs=>obtain⟨⟨ys,k⟩,h1,h⟩:=aN h;cases h;exact mD h1|_=>exact one h
theorem yg:∀{xs ys:List AV}{ks:List (Nat×Nat)},qK m xs=some (ys,ks)->∀p∈ks,cq p.1 p.2∈xs.flatMap ec
 |[],_,_,h=>by cases h;simp|x::r,_,_,h=>by
  simp[qK]at h;split at h
  .rename_i h1 h2;cases h;intro p hp;rw[List.flatMap_cons,List.mem_append];rcases List.mem_append.1 hp with hp|hp;.exact .inl (J9 h1 p hp)
   .exact .inr (yg h2 p hp)
  grind
end
def zx(s s':St):hU->Prop|.bW e=>(kM (.bW e)=true->s'.mem.length=s.mem.length)/\∀k∈e.rd,j6 s' k=j6 s k|.all ..=>s'.mem=s.mem/\s'.aI=s.aI/\s'.nv=s.nv
theorem zx.mem{s s':St}{e:fH}(h:zx s s' (.bW e)):cG s.mem s'.mem e.rd:=λ_ _ hk=>Fl (h.2 _ hk)
section
variable{call:Call}{sh:Nat->Bool}{s s':St}{row d aO:Nat}
theorem sY{l:List bT}(h:∀x∈l,x.ev s'.slots=x.ev s.slots):GR s'.slots l=GR s.slots l:=List.map_congr_left h
theorem j7{x:Option bT}{n:Nat}(h:∀y∈x.toList,y.ev s'.slots=y.ev s.slots):fq x s'.slots n=fq x s.slots n:=by cases x with|none=>rfl|some y=>grind[bT.ev,fq]
theorem rJ:∀{ps:List (Nat×Nat×bT)}{cs:List AV},(∀x∈ps.map (·.2.2),x.ev s'.slots=x.ev s.slots)->oX s'.slots cs ps=oX s.slots cs ps
 |[],_,_=>rfl|(off,sz,x)::r,cs,h=>by
  simp[oX];rw[h x (by simp)];split
  .split;.exact rJ λy hy=>h y (by simp only[List.map_cons,List.mem_cons];exact .inr hy)
   .rfl
  .rfl
theorem yh{m:List (Tr bB)}{sz:Nat}:∀{ps:List (Nat×bT)}{els:List (List D)},(∀x∈ps.map (·.2),x.ev s'.slots=x.ev s.slots)->oY m s'.slots sz els ps=oY m s.slots sz els ps
 |[],_,_=>rfl|(i,x)::r,els,h=>by
  simp[oY];rw[h x (by simp)];split
  .split;.rw[yh λy hy=>h y (by simp only[List.map_cons,List.mem_cons];exact .inr hy)]
   .rfl
  .rfl
theorem nE{v:AV}{u:Nat×Nat×Option bB}{us:List (Nat×Nat×Option bB)}{t:List (Nat×Bool)}{rd:List (Nat×Nat×Nat)}:kM (.bW {val:=v,cV:=u::us,cD:=t,rd:=rd})=true:=by cases rd<;>rfl
theorem NV{v:AV}{u:Nat×Nat×Option bB}{us:List (Nat×Nat×Option bB)}{t:List (Nat×Bool)}{rd:List (Nat×Nat×Nat)}:kM (.bW {val:=v,cV:=us++[u],cD:=t,rd:=rd})=true:=by simp_all[kM]
theorem oO{rw:Bool}{lv cL sl sz bytes:Nat}{x y:AV}{e:fH}(h:dA s rw lv sl aO sz bytes x y=some e)(hl:kM (.bW e)=true->cL=lv)(hk:∀k∈e.rd,j6 s' k=j6 s k):dA s' rw cL sl aO sz bytes x y=some e:=by
 have NW:cG s.mem s'.mem e.rd:=λ_ _ h=>Fl (hk _ h);unfold dA at h⊢;split at h;.cases h
 .rename_i news hn;split at h
  .rename_i hall;split at h
   .split at h
    .rename_i hc;split at h;.cases h;rw[jh (m:=s.mem) NW,hn]<;>grind
     .split at h;.cases h
      .rename_i hne;cases h;rw[jh (m:=s.mem) NW,hn];simp only[hall,if_true];rw[if_pos hc,if_neg hne,hl nE]
    grind
   .split at h;.rename_i hc;cases h;rw[jh (m:=s.mem) λlv sl hk=>NW lv sl (List.mem_cons_of_mem _ hk),hn];simp only[hall,if_true];rw[if_pos (by rw[Vv (hk _ (List.mem_cons_self ..))];exact hc)]
    grind
   .split at h
    .rename_i els hr;split at h;.cases h;rw[jh (m:=s.mem) λlv sl hk=>NW lv sl (List.mem_cons_of_mem _ hk)];rw[lZ (NW _ _ (List.mem_cons_self ..)),hr]<;>grind
     grind
    grind
   grind
  grind
theorem AB{x:AV}{e:fH}(h:lV s aO x=some e)(hk:∀k∈e.rd,j6 s' k=j6 s k):lV s' aO x=some e:=by
 unfold lV at h⊢;split at h;.exact h
 .split at h
  .obtain⟨zs,hz,h⟩:=aR h;split at h;.cases h<;>simp_all[j6,cq,iB,jo,rj,rowAt]
   grind
  grind
 omega
theorem Ka{row lv cL d:Nat}{x:AV}(hl:kM (.bW (zo row lv d aO x))=true->cL=lv):zo row cL d aO x=zo row lv d aO x:=by unfold zo at hl⊢<;>grind[kM,zo]
theorem Hy{x:AV}{e:fH}(h:xZ s x=some e)(hk:∀k∈e.rd,j6 s' k=j6 s k):xZ s' x=some e:=by
 unfold xZ at h⊢;split at h;.exact h
 .split at h
  .rename_i els hr;obtain⟨zs,hz,h⟩:=aR h;split at h;.cases h;rw[lZ (m:=s.mem) (Fl (hk _ (List.mem_cons_self ..))),hr]<;>omega
   grind
  grind
 omega
theorem Kb{sz l:Nat}{hi:Option Nat}{x:AV}{e:fH}(h:GS s aO sz x l hi=some e)(hk:∀k∈e.rd,j6 s' k=j6 s k):GS s' aO sz x l hi=some e:=by
 unfold GS at h⊢;split at h
 .split at h
  .split at h;.cases h<;>simp_all[j6,cq,rowAt]
   grind
  grind
 omega
section
variable{cm:List (Tr bB)}{top pk lv cL sl ah:Nat}
theorem tM{k:Nat}{x y:AV}(h:bu cm top pk k lv sl ah x=some (y,[])):bu cm top pk k cL sl ah x=some (y,[]):=by cases x with
 |ref a b c off len sz=>
  simp[bu]at h⊢;split at h;.exact h
  .split at h<;>grind|own els o=>cases o with|full=>simp[bu]at h⊢<;>grind|cD v tz=>exact h|_=>exact h
 |gp f c=>cases c<;>exact h|_=>exact h
theorem rK:∀{l ys:List AV}{k:Nat},de cm top pk lv sl ah k l=some (ys,[])->de cm top pk cL sl ah k l=some (ys,[])
 |[],_,_,h=>h|x::r,ys,k,h=>by
  simp[de]at h⊢;split at h;.rename_i y u ys' us h1 h2;simp at h;obtain⟨rfl,rfl,rfl⟩:=h;rw[tM h1,rK h2];rfl
  grind
theorem AD{k:Nat}{x y:AV}(h:kR cm top pk lv sl ah k x=some (y,[])):kR cm top pk cL sl ah k x=some (y,[]):=by cases x with
 |agg cs=>simp only[kR]at h⊢;cases hc:de cm top pk lv sl ah k cs with|none=>grind|some p=>obtain⟨a,b⟩:=p;rw[hc]at h;cases h;rw[rK hc];rfl
 |_=>simp only[kR]at h⊢;exact tM h
theorem vl:∀{l ys:List AV}{k:Nat},fL cm top pk lv sl ah k l=some (ys,[])->fL cm top pk cL sl ah k l=some (ys,[])
 |[],_,_,h=>h|x::r,ys,k,h=>by
  simp[fL]at h⊢;split at h;.rename_i y u ys' us h1 h2;simp at h;obtain⟨rfl,rfl,rfl⟩:=h;rw[AD h1,vl h2];rfl
  grind
theorem Kc{x y:AV}(h:gC cm top pk lv sl ah x=some (y,[])):gC cm top pk cL sl ah x=some (y,[]):=by cases x with
 |iY cs=>simp only[gC]at h⊢;cases hc:fL cm top pk lv sl ah 1 cs with|none=>grind|some p=>obtain⟨a,b⟩:=p;rw[hc]at h;cases h;rw[vl hc];rfl
 |_=>simp only[gC]at h⊢;exact AD h
end
section
variable{m m':List (Tr bB)}
theorem yj{x:AV}(h:cG m m' (cZ x)):ia m' x=ia m x:=by cases x with|ref lv sl ah off n sz=>simp[ia];rw[iH h]|_=>rfl
theorem qd:∀{l:List AV},cG m m' (l.flatMap cZ)->iF m' l=iF m l|[],_=>rfl|x::r,h=>by simp[iF];rw[yj λlv sl hk=>h lv sl (by simp[hk]),qd λlv sl hk=>h lv sl (by simp only[List.flatMap_cons,List.mem_append];exact .inr hk)]
theorem Kd{x:AV}(h:cG m m' (p7 m x)):kL m' x=kL m x/\p7 m' x=p7 m x:=by cases x with
 |agg cs=>exact⟨by simp only[kL];rw[qd h],rfl⟩|gp f c=>cases c<;>exact⟨rfl,rfl⟩|fe lv sl ah off n sz=>have hb:=yd (ah:=ah) (h lv sl (by simp[p7]));refine⟨?_,by simp only[p7,hb]⟩;simp[kL,hb];cases hq:nZ m lv sl ah with|none=>rfl|some cs=>simp;rw[qd λcL dU hk=>h cL dU (by simp only[p7,hq,List.mem_cons];obtain⟨a,ha,hk⟩:=List.mem_flatMap.1 hk;exact .inr (List.mem_flatMap.2 ⟨a,List.mem_of_mem_drop (List.mem_of_mem_take ha),hk⟩))]
 |ref lv sl ah off n sz=>exact⟨by simp only[kL];rw[yj h],rfl⟩|_=>exact⟨rfl,rfl⟩
theorem yl:∀{l:List AV},cG m m' (l.flatMap (p7 m))->uV m' l=uV m l/\l.flatMap (p7 m')=l.flatMap (p7 m)|[],_=>⟨rfl,rfl⟩|x::r,h=>by obtain⟨h1,h2⟩:=Kd (x:=x) λlv sl hk=>h lv sl (by simp[hk]);obtain⟨h3,h4⟩:=yl (l:=r) λlv sl hk=>h lv sl (by simp only[List.flatMap_cons,List.mem_append];exact .inr hk)<;>grind[kL,cG,p7,uV]
end
theorem vm{f:Nat}{args:List AV}{r:hU}(h:j0 call s f args=some r)(hn:zx s s' r):j0 call s' f args=some r:=by
 unfold j0 at h;split at h;.cases h
 .split at h;.cases h
  .split at h;case h_2=>cases h
   split at h;case h_2=>cases h
   cases h;obtain⟨h1,h2⟩:=yl (m:=s.mem) (m':=s'.mem) (l:=args) hn.mem;unfold j0<;>grind
theorem qe{shd:Bool}{f:Nat}{args:List AV}{r:hU}(h:gr call shd row s (s.mem.length-1) d aO f args=some r)(hn:zx s s' r):gr call shd row s' (s'.mem.length-1) d aO f args=some r:=by
 unfold gr at h⊢
 cases shd with|false=>
  simp at h⊢;split at h;.cases h
  .rename_i aL ks hl;split at h;.cases h
   .rename_i r' cm _ _ hc;split at h;.cases h
    .rename_i v us hi;split at h;.cases h
     .rename_i u hu;cases h;have hks:cG s.mem s'.mem (iE ks):=λlv sl hk=>hn.mem lv sl (by obtain⟨p,hp,he⟩:=List.mem_map.1 hk;rw[<-he];exact yg hl p hp);rw[yf (m:=s.mem) hn.mem,hl];simp[hc,l5 hks];have hlen:dV s.mem ks++u≠[]->s'.mem.length=s.mem.length:=λhne=>hn.1 (by simp only[kM];cases hz:dV s.mem ks++u with|nil=>exact absurd hz hne|cons a b=>simp);by_cases hus:us=[];.subst hus;rw[Kc hi];cases hu;rfl
      .have hlen:=hlen (by
       unfold jZ at hu;split at hu;.exact absurd rfl hus
       .injection hu with hu;subst hu;simp
       .cases hu);grind|true=>
  simp at h⊢;split at h;.cases h
  .split at h;.cases h
   .split at h;.cases h
    .split at h;.cases h
     .cases h<;>simp_all[fM,zx,Call,bw,jZ,gC]
theorem Fo{f:Nat}{args:List AV}{r:hU}(h:p6 call s f args=some r)(hn:zx s s' r):p6 call s' f args=some r:=by
 unfold p6 at h⊢;split at h;.cases h
 .split at h;.cases h
  .cases h<;>simp_all[fM,zx,Call]
theorem Ke{m m':List (Tr bB)}{x:AV}(h:cG m m' (ec x)):wO m' x=wO m x:=by cases x with|agg cs=>simp[wO];rw[mC h]|_=>simp only[wO];rw[rH h]
theorem ym{m m':List (Tr bB)}:∀{l:List AV},cG m m' (l.flatMap ec)->qL m' l=qL m l|[],_=>rfl|x::r,h=>by simp[qL];rw[Ke λlv sl hk=>h lv sl (by simp[hk]),ym λlv sl hk=>h lv sl (by simp only[List.flatMap_cons,List.mem_append];exact .inr hk)]
theorem Kf{m:List (Tr bB)}{x y:AV}{ks:List (Nat×Nat)}(h:wO m x=some (y,ks)):∀p∈ks,cq p.1 p.2∈ec x:=by cases x with|agg cs=>obtain⟨⟨ys,k⟩,h1,h⟩:=aN h;cases h;exact mD h1|_=>simp only[wO]at h;exact rI h
theorem yo{m:List (Tr bB)}:∀{xs ys:List AV}{ks:List (Nat×Nat)},qL m xs=some (ys,ks)->∀p∈ks,cq p.1 p.2∈xs.flatMap ec
 |[],_,_,h=>by cases h;simp|x::r,_,_,h=>by
  simp[qL]at h;split at h
  .rename_i h1 h2;cases h;intro p hp;rw[List.flatMap_cons,List.mem_append];rcases List.mem_append.1 hp with hp|hp;.exact .inl (Kf h1 p hp)
   .exact .inr (yo h2 p hp)
  grind
theorem Fp{f:Nat}{args:List AV}{r:hU}(h:ni call s aO f args=some r)(hn:zx s s' r):ni call s' aO f args=some r:=by
 unfold ni at h⊢;split at h;.cases h
 .rename_i aL ks hl;split at h;.cases h
  .rename_i r' cm _ _ hc;split at h;.rename_i v hi;cases h;have hm:=hn.mem;rw[ym hm,hl];simp[hc,hi];rw[l5 (m:=s.mem) (m':=s'.mem) λlv sl hk=>hm lv sl ?_];obtain⟨p,hp,he⟩:=List.mem_map.1 hk;exact he▸yo hl p hp
   grind
theorem vn{m m':List (Tr bB)}:∀{l:List AV},cG m m' (l.flatMap cZ)->oK m' l=oK m l|[],_=>rfl|x::r,h=>by simp[oK];rw[nD λlv sl hk=>h lv sl (by simp[hk]),vn λlv sl hk=>h lv sl (by simp only[List.flatMap_cons,List.mem_append];exact .inr hk)]
theorem Hz{m m':List (Tr bB)}{x:AV}(h:cG m m' (ec x)):qM m' x=qM m x:=by cases x with|agg cs=>simp[qM];rw[vn h]|_=>simp only[qM];rw[nD h]
theorem vo{m m':List (Tr bB)}:∀{l:List AV},cG m m' (l.flatMap ec)->p5 m' l=p5 m l|[],_=>rfl|x::r,h=>by simp[p5];rw[Hz λlv sl hk=>h lv sl (by simp[hk]),vo λlv sl hk=>h lv sl (by simp only[List.flatMap_cons,List.mem_append];exact .inr hk)]
theorem Fq{f:Nat}{args:List AV}{r:hU}(h:nj call s aO f args=some r)(hn:zx s s' r):nj call s' aO f args=some r:=by
 unfold nj at h⊢;split at h;.cases h
 .rename_i aL hl;split at h;.cases h
  .split at h;.cases h;have hm:=hn.mem;rw[vo hm,hl]<;>grind
   grind
theorem NX{op:cj}{r:hU}(h:op.run call sh s row d aO=some r)(hs:∀x∈op.jt,x.ev s'.slots=x.ev s.slots)(hn:zx s s' r):op.run call sh s' row d aO=some r:=by cases op with
 |alloc z=>simp only[cj.run]at h⊢;injection h with h;subst h;rw[hn.1 nE]|box x=>simp only[cj.jt,List.mem_cons,List.not_mem_nil,or_false,forall_eq]at hs;simp only[cj.run,hs]at h⊢;obtain⟨cs,hcs,rfl⟩:=aN h;rw[hcs,hn.1 nE];rfl|makeSlice sz b z x y=>
  simp only[cj.jt,List.mem_cons,List.not_mem_nil,or_false,forall_eq_or_imp,forall_eq]at hs;simp only[cj.run,hs.1,hs.2]at h⊢;split at h
  .split at h;.rename_i hc;injection h with h;subst h;rw[if_pos hc,hn.1 nE]
   .cases h
  .cases h|build z ps=>simp only[cj.run]at h⊢;rw[rJ hs];exact h|buildSlice sz n z ps=>simp only[cj.run]at h⊢;cases hr2:Nat.beq row 2with
  |true=>
   rw[hr2]at h;simp only at h⊢;split at h;.cases h
   .cases hf:oX s.slots ((List.replicate n z).flatten.map .d) (ps.map λp=>(p.1*sz,sz,p.2))with|none=>rw[hf]at h;cases h|some cs=>rw[hf]at h;simp only[Option.map_some,Option.some.injEq]at h;subst h;rw[rJ (s:=s) (λx hx=>hs x (by simp only[List.map_map]at hx;exact hx)),hf,hn.1 nE];rfl
  |false=>
  rw[hr2]at h;simp only at h⊢;rw[yh hs];split at h;.cases h
  .rename_i els ks hf;split at h;.injection h with h;subst h;rw[ug hf hn.mem];simp only[l5 (m:=s.mem) hn.mem]
   .split at h;.cases h
    .rename_i hk;injection h with h;subst h;rw[ug hf hn.mem];simp only[l5 (m:=s.mem) hn.mem];rw[hn.1 NV,if_neg hk]
 |load sz agg x=>simp only[cj.jt,List.mem_cons,List.not_mem_nil,or_false,forall_eq]at hs;simp only[cj.run,hs]at h⊢;obtain⟨cs,hcs,h⟩:=aR h;obtain⟨v,hv,rfl⟩:=aN h;rw[Hx (m:=s.mem) hn.mem,hcs];simp only[Option.bind_some,hv,Option.map_some]|store sz x y=>simp only[cj.jt,List.mem_cons,List.not_mem_nil,or_false,forall_eq_or_imp,forall_eq]at hs;simp only[cj.run,hs.1,hs.2]at h⊢;obtain⟨e,he,rfl⟩:=aN h;rw[Fm he hn.mem];rfl|append sz b x y=>simp only[cj.jt,List.mem_cons,List.not_mem_nil,or_false,forall_eq_or_imp,forall_eq]at hs;simp only[cj.run,hs.1,hs.2]at h⊢;obtain⟨e,he,rfl⟩:=aN h;rw[J6 (t':=s.mem.length-1),oO he (λhl=>by rw[hn.1 hl]) hn.2];rfl|mkSet=>simp only[cj.run]at h⊢;injection h with h;subst h;rw[hn.1 nE]|Xv x=>simp only[cj.jt,List.mem_cons,List.not_mem_nil,or_false,forall_eq]at hs;simp only[cj.run,hs]at h⊢;obtain⟨els,hel,h⟩:=aR h;obtain⟨l,hl,rfl⟩:=aN h;rw[iH (m:=s.mem) hn.mem,hel];simp only[Option.bind_some,hl,Option.map_some]|GO x y=>
  simp only[cj.jt,List.mem_cons,List.not_mem_nil,or_false,forall_eq_or_imp,forall_eq]at hs;simp only[cj.run,hs.1,hs.2]at h⊢;split at h;.rename_i lv sl ah b h1 h2;obtain⟨ks,hk,rfl⟩:=aN h;rw[ye (hn.mem _ _ (List.mem_cons_self ..)),hk];rfl
  .cases h|GP x y=>
  simp only[cj.jt,List.mem_cons,List.not_mem_nil,or_false,forall_eq_or_imp,forall_eq]at hs;simp only[cj.run,hs.1,hs.2]at h⊢;split at h;.rename_i lv sl ah b h1 h2;obtain⟨ks,hk,rfl⟩:=aN h;rw[ye (hn.mem _ _ (List.mem_cons_self ..)),hk];rfl
  .cases h|nY sz b z x n=>
  simp only[cj.jt,List.mem_cons,List.not_mem_nil,or_false,forall_eq_or_imp,forall_eq]at hs;simp only[cj.run,hs.1,hs.2]at h⊢;obtain⟨k,hk,h⟩:=aR h;simp only[hk,Option.bind_some];split at h;.rename_i hc;rw[if_pos hc];obtain⟨e,he,rfl⟩:=aN h;rw[oO he (λhl=>by rw[hn.1 hl]) hn.2];rfl
  .cases h|GM x=>
  simp only[cj.jt,List.mem_cons,List.not_mem_nil,or_false,forall_eq]at hs;simp only[cj.run,hs]at h⊢;split at h
  .obtain⟨E,hE,rfl⟩:=aN h;unfold GU at hE⊢;split at hE
   .rename_i cL dU ah off len sz he;split at hE
    .rename_i els hr;split at hE;.rename_i hb;injection hE with hE;subst hE;rw[lZ (hn.mem _ _ (List.mem_cons_self ..)),hr];simp only[hb];rw[hn.1 nE];rfl
     .cases hE
    .cases hE
   .cases hE
  .injection h with h;subst h;rw[Ka λhl=>by rw[hn.1 hl]]|compact x=>simp only[cj.jt,List.mem_cons,List.not_mem_nil,or_false,forall_eq]at hs;simp only[cj.run,hs]at h⊢;obtain⟨e,he,rfl⟩:=aN h;rw[AB he hn.2];rfl|sort x=>simp only[cj.jt,List.mem_cons,List.not_mem_nil,or_false,forall_eq]at hs;simp only[cj.run,hs]at h⊢;obtain⟨e,he,rfl⟩:=aN h;rw[Hy he hn.2];rfl|clone sz b x=>
  simp only[cj.jt,List.mem_cons,List.not_mem_nil,or_false,forall_eq]at hs;simp only[cj.run,hs]at h⊢;split at h
  .rename_i els hq;obtain⟨e,he,rfl⟩:=aN h;rw[oO he (λhl=>by rw[hn.1 hl]) hn.2];have:∃els,dc s'.mem (x.ev s.slots)=some els:=by
    refine⟨els,?_⟩;rw[iH (m:=s.mem) λlv sl hk=>hn.mem lv sl ?_,hq];unfold dA at he;split at he;.cases he
    .split at he
     .simp only at he;split at he
      .split at he;.injection he with he;subst he;exact hk
       .split at he;.cases he
        .injection he with he;subst he;exact hk
      .cases he
     .cases he
   obtain⟨els',h'⟩:=this;rw[h'];rfl
  .cases h|copy sz x y=>
  simp only[cj.jt,List.mem_cons,List.not_mem_nil,or_false,forall_eq_or_imp,forall_eq]at hs;simp only[cj.run,hs.1,hs.2]at h⊢;split at h
  .rename_i lv sl ah off n sz' news hx hy;split at h
   .rename_i cs hb;split at h;.rename_i hc;injection h with h;subst h;have hm:=hn.mem;rw[jh (m:=s.mem) λlv sl hk=>hm lv sl (List.mem_cons_of_mem _ hk),hy,hx];simp only;rw[yd (hm _ _ (List.mem_cons_self ..)),hb];simp only;rw[if_pos hc]
    .cases h
   .cases h
  .rename_i lv sl ah off n sz' news hx hy;split at h
   .rename_i cs hb;split at h;.rename_i hc;injection h with h;subst h;have hm:=hn.mem;rw[jh (m:=s.mem) λlv sl hk=>hm lv sl (List.mem_cons_of_mem _ hk),hy,hx];simp only;rw[lZ (hm _ _ (List.mem_cons_self ..)),hb];simp only;rw[if_pos hc]
    .cases h
   .cases h
  .cases h|clear sz z x=>
  simp only[cj.jt,List.mem_cons,List.not_mem_nil,or_false,forall_eq]at hs;simp only[cj.run,hs]at h⊢;split at h
  .split at h
   .rename_i els hr;split at h;.rename_i hc;injection h with h;subst h;rw[lZ (hn.mem _ _ (List.mem_cons_self ..)),hr];simp only;rw[if_pos hc]
    .cases h
   .cases h
  .cases h|call f args=>simp only[cj.run]at h⊢;rw[sY (l:=args) hs];cases h7:Nat.beq row 7with|true=>rw[h7]at h;exact vm h hn|false=>cases h8:Nat.beq row 8with|true=>rw[h7,h8]at h;exact Fo h hn|false=>cases h9:Nat.beq row 9with|true=>rw[h7,h8,h9]at h;exact Fp h hn|false=>cases h10:Nat.beq row 10with|true=>rw[h7,h8,h9,h10]at h;exact Fq h hn|false=>rw[h7,h8,h9,h10]at h;exact qe h hn
 |uT f args=>simp only[cj.run]at h⊢;rw[sY (l:=args) hs];cases XE:sh f with|true=>rw[XE]at h;exact qe h hn|false=>rw[XE]at h;exact vm h hn
 |zZ x args=>
  simp only[cj.jt,List.mem_cons,forall_eq_or_imp]at hs;simp only[cj.run,hs.1]at h⊢;split at h;.rw[sY hs.2];exact qe h hn
  .cases h|makeFunc f args=>simp only[cj.run]at h⊢;rw[sY (l:=args) hs];exact h|slice sz x a b c=>
  simp only[cj.jt,List.mem_cons,List.mem_append,forall_eq_or_imp]at hs;simp only[cj.run,hs.1]at h⊢;rw[j7 λy hy=>hs.2 y (.inl (.inl hy)),j7 λy hy=>hs.2 y (.inl (.inr hy)),j7 λy hy=>hs.2 y (.inr hy)];split at h
  .split at h;.obtain⟨e,he,rfl⟩:=aN h;rw[Kb he hn.2];rfl
   .exact h
  .cases h|p4 x a b=>
  simp only[cj.jt,List.mem_cons,List.mem_append,forall_eq_or_imp]at hs;simp only[cj.run,hs.1]at h⊢;split at h;.rw[j7 λy hy=>hs.2 y (.inl hy),j7 λy hy=>hs.2 y (.inr hy)];exact h
  .cases h|CH n=>exact h|bad=>exact h|pick a b c=>simp only[cj.jt,List.mem_cons,List.not_mem_nil,or_false,forall_eq_or_imp,forall_eq]at hs;simp only[cj.run,hs.1,hs.2.1,hs.2.2]at h⊢;exact h|nilCheck x|xY _ x|un _ x|conv _ x|field _ _ _ x|fieldAddr _ x|extract x _|len x|EU x|GN x|Xw x|sliceB _ _ x|q8 _ _ _ x=>simp only[cj.jt,List.mem_cons,List.not_mem_nil,or_false,forall_eq]at hs;simp only[cj.run,hs]at h⊢;exact h|bin _ x y|U4 _ x y|U5 _ _ _ x y|indexAddr _ x y|jY _ _ x y|pY _ _ _ x y|pZ x y|EV x y|EW x y|grow _ x y=>simp only[cj.jt,List.mem_cons,List.not_mem_nil,or_false,forall_eq_or_imp,forall_eq]at hs;simp only[cj.run,hs.1,hs.2]at h⊢;exact h
end
end Go.bJ
