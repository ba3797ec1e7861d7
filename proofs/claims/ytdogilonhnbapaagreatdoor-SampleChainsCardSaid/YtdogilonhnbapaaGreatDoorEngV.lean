/- What an operation depends on. -/
import Derived.Test.YtdogilonhnbapaaGreatDoorEngU
set_option linter.unusedVariables false
set_option linter.unusedSimpArgs false
namespace Go.bI
open Go
def j9(s:St)(k:Nat×Nat×Nat):Option bC×Option Unit:=if k.1=0then(aK s.mem k.2.1 k.2.2,none)else if k.1=1/\k.2.2=0then(none,s.aG.get? k.2.1)else(none,none)
theorem F1{s s':St}{lv sl:Nat}(h:j9 s' (bL lv sl)=j9 s (bL lv sl)):aK s'.mem lv sl=aK s.mem lv sl:=by simpa[j9,bL]using h
theorem Wr{s s':St}{v:Nat}(h:j9 s' (jX v)=j9 s (jX v)):s'.aG.get? v=s.aG.get? v:=by simpa[j9,jX]using h
def cF(m m':List (Tr bC))(ks:List (Nat×Nat×Nat)):Prop:=∀lv sl,bL lv sl∈ks->aK m' lv sl=aK m lv sl
section
variable{m m':List (Tr bC)}
theorem l9{lv sl ai:Nat}(h:aK m' lv sl=aK m lv sl):rowAt m' lv sl ai=rowAt m lv sl ai:=by unfold rowAt;rw[h]
theorem mb{ks:List (Nat×Nat)}(h:cF m m' (iG ks)):dS m' ks=dS m ks:=List.map_congr_left λk hk=>by rw[h k.1 k.2 (List.mem_map.2 ⟨k,hk,rfl⟩)]
theorem yF{lv sl ai:Nat}(h:aK m' lv sl=aK m lv sl):gE m' lv sl ai=gE m lv sl ai:=by unfold gE;rw[h]
theorem yG{lv sl ai:Nat}(h:aK m' lv sl=aK m lv sl):setAt m' lv sl ai=setAt m lv sl ai:=by unfold setAt;rw[h]
theorem KX{row t t' d:Nat}:(uo row t d).2=(uo row t' d).2:=by grind[uo]
theorem iJ{x:AV}(h:cF m m' (di x)):dm m' x=dm m x:=by cases x with|ref lv sl ai off n sz=>simp[dm];grind[di,cF,qV]|d x=>cases x<;>rfl|_=>rfl
theorem jk{x:AV}(h:cF m m' (di x)):gi m' x=gi m x:=by
 unfold gi;split;.rfl
 .exact iJ h
theorem O3{x:AV}(h:cF m m' (di x)):zS m' x=zS m x:=by cases x with|ref lv sl ai off n sz=>simp[zS];rw[iJ h]|own els o=>cases o<;>rfl|_=>rfl
theorem R2{x:AV}{y:D}{ks:List (Nat×Nat)}(h:zS m x=some (y,ks))(hs:cF m m' (iG ks)):zS m' x=some (y,ks):=by cases x with
 |ref lv sl ai off n sz=>simp only[zS]at h⊢;cases he:dm m (.ref lv sl ai off n sz)with|none=>grind|some els=>rw[he]at h;cases h;rw[iJ (m:=m) (λcG dF hk=>hs cG dF (by simpa[di,iG]using hk)),he];rfl
 |own els o=>cases o<;>exact h|_=>exact h
theorem xx:∀{l:List AV}{ys:List D}{ks:List (Nat×Nat)},Dc m l=some (ys,ks)->cF m m' (iG ks)->Dc m' l=some (ys,ks)
 |[],_,_,h,_=>h|x::r,ys,ks,h,hs=>by
  simp[Dc]at h⊢;split at h;.rename_i y k ys' ks' h1 h2;cases h;rw[R2 h1 λlv sl hk=>hs lv sl (by simp only[iG,List.map_append,List.mem_append]at hk⊢;exact .inl hk),xx h2 λlv sl hk=>hs lv sl (by simp only[iG,List.map_append,List.mem_append]at hk⊢;exact .inr hk)]
  grind
theorem KY{x:AV}{ys:List D}{ks:List (Nat×Nat)}(h:DF m x=some (ys,ks))(hs:cF m m' (iG ks)):DF m' x=some (ys,ks):=by unfold DF at h⊢;cases hc:cellsOf x with|none=>grind|some cs=>rw[hc]at h;exact xx h hs
theorem uC{s:Tr AV}{sz:Nat}:∀{ps:List (Nat×bZ)}{els els':List (List D)}{ks:List (Nat×Nat)},pz m s sz els ps=some (els',ks)->cF m m' (iG ks)->pz m' s sz els ps=some (els',ks)
 |[],_,_,_,h,_=>h|(i,x)::r,els,els',ks,h,hs=>by
  simp[pz]at h⊢;split at h
  .rename_i e ks1 he;split at h
   .rename_i hc;split at h;.rename_i xo ks2 hf;cases h;rw[KY he λlv sl hk=>hs lv sl (by simp[iG,List.map_append,List.mem_append]at hk⊢;exact .inl hk)];simp[hc,and_self,if_true];rw[uC hf λlv sl hk=>hs lv sl (by simp[iG,List.map_append,List.mem_append]at hk⊢;exact .inr hk)]
    grind
   grind
  grind
theorem Iu{sz:Nat}{x:AV}(h:cF m m' (di x)):qY m' sz x=qY m sz x:=by cases x with|ptr lv sl ai i off=>grind[di,cF,qY]|_=>rfl
theorem F2{sz:Nat}{p v:AV}{e:fH}(h:qj m sz p v=some e)(hs:cF m m' e.rd):qj m' sz p v=some e:=by
 unfold qj at h⊢;split at h
 .rename_i lv sl ai i off new hc;have key:bL lv sl∈e.rd->aK m' lv sl=aK m lv sl:=λhk=>hs lv sl hk;split at h
  .split at h;.grind
   .rename_i v' els hg;split at h
    .rename_i h1;split at h
     .rename_i e' ds ks hi hd;split at h;.cases h;rw[xx hd λlv sl hk=>hs lv sl (List.mem_cons_of_mem _ hk)];have hfr:dS m' ks=dS m ks:=mb (m:=m) λlv sl hk=>hs lv sl (List.mem_cons_of_mem _ hk)<;>grind
      grind
     grind
    grind
   .cases h
   .cases h
   grind
  grind
 omega
theorem nK{x:AV}(h:cF m m' (di x)):cR m' x=cR m x:=by cases x with|ref lv sl ai off n sz=>simp[cR];rw[iJ h]|own els o=>cases o<;>rfl|gm f c=>cases c<;>rfl|_=>rfl
theorem r8{x:AV}(h:cF m m' (di x)):ep m' x=ep m x:=by
 unfold ep;split;.rfl
 .rfl
 .rw[O3 h]
theorem mE:∀{l:List AV},cF m m' (l.flatMap di)->fh m' l=fh m l|[],_=>rfl|x::r,h=>by simp[fh];rw[r8 λlv sl hk=>h lv sl (by simp[hk]),mE λlv sl hk=>h lv sl (by simp only[List.flatMap_cons,List.mem_append];exact .inr hk)]
theorem KZ{x:AV}(h:cF m m' (dQ x)):xe m' x=xe m x:=by cases x with|agg cs=>simp[xe];rw[mE h]|_=>simp only[xe];rw[nK h]
theorem yH:∀{l:List AV},cF m m' (l.flatMap dQ)->pg m' l=pg m l|[],_=>rfl|x::r,h=>by simp[pg];rw[KZ λlv sl hk=>h lv sl (by simp[hk]),yH λlv sl hk=>h lv sl (by simp only[List.flatMap_cons,List.mem_append];exact .inr hk)]
end
section
variable{m:List (Tr bC)}
theorem O4{x:AV}{y:D}{ks:List (Nat×Nat)}(h:zS m x=some (y,ks)):∀p∈ks,bL p.1 p.2∈di x:=by cases x with
 |ref lv sl ai off n sz=>obtain⟨els,_,h⟩:=aN h<;>grind[zS,bL,di]|d x=>cases h;simp|own els o=>cases o<;>simp only[zS]at h<;>first|(injection h with h;injection h with _ h2;subst h2;simp)|cases h
 |_=>cases h
theorem r9{x y:AV}{ks:List (Nat×Nat)}(h:ep m x=some (y,ks)):∀p∈ks,bL p.1 p.2∈di x:=by
 unfold ep at h;split at h;.grind
 .grind
 .obtain⟨⟨z,k⟩,h1,h⟩:=aN h;cases h;exact O4 h1
theorem mF:∀{xs ys:List AV}{ks:List (Nat×Nat)},fh m xs=some (ys,ks)->∀p∈ks,bL p.1 p.2∈xs.flatMap di
 |[],_,_,h=>by cases h;simp|x::r,_,_,h=>by
  simp[fh]at h;split at h
  .rename_i h1 h2;cases h;intro p hp;rw[List.flatMap_cons,List.mem_append];rcases List.mem_append.1 hp with hp|hp;.exact .inl (r9 h1 p hp)
   .exact .inr (mF h2 p hp)
  grind
theorem K0{x y:AV}{ks:List (Nat×Nat)}(h:xe m x=some (y,ks)):∀p∈ks,bL p.1 p.2∈dQ x:=by
 have one:(cR m x).map (λy=>(y,([]:List (Nat×Nat))))=some (y,ks)->∀p∈ks,bL p.1 p.2∈dQ x:=by simp_all
 cases x with|agg cs=>obtain⟨⟨ys,k⟩,h1,h⟩:=aN h;cases h;exact mF h1|_=>exact one h
theorem yI:∀{xs ys:List AV}{ks:List (Nat×Nat)},pg m xs=some (ys,ks)->∀p∈ks,bL p.1 p.2∈xs.flatMap dQ
 |[],_,_,h=>by cases h;simp|x::r,_,_,h=>by
  simp[pg]at h;split at h
  .rename_i h1 h2;cases h;intro p hp;rw[List.flatMap_cons,List.mem_append];rcases List.mem_append.1 hp with hp|hp;.exact .inl (K0 h1 p hp)
   .exact .inr (yI h2 p hp)
  grind
end
def xz(s s':St):gB->Prop|.bX e=>(kS (.bX e)=true->s'.mem.length=s.mem.length)/\∀k∈e.rd,j9 s' k=j9 s k|.all ..=>s'.mem=s.mem/\s'.aG=s.aG/\s'.nv=s.nv
theorem xz.mem{s s':St}{e:fH}(h:xz s s' (.bX e)):cF s.mem s'.mem e.rd:=λ_ _ hk=>F1 (h.2 _ hk)
section
variable{call:Call}{sh:Nat->Bool}{s s':St}{row d aO:Nat}
theorem tG{l:List bZ}(h:∀x∈l,x.ev s'.slots=x.ev s.slots):HV s'.slots l=HV s.slots l:=List.map_congr_left h
theorem ke{x:Option bZ}{n:Nat}(h:∀y∈x.toList,y.ev s'.slots=y.ev s.slots):fq x s'.slots n=fq x s.slots n:=by cases x with|none=>rfl|some y=>grind[bZ.ev,fq]
theorem sj:∀{ps:List (Nat×Nat×bZ)}{cs:List AV},(∀x∈ps.map (·.2.2),x.ev s'.slots=x.ev s.slots)->pq s'.slots cs ps=pq s.slots cs ps
 |[],_,_=>rfl|(off,sz,x)::r,cs,h=>by
  simp[pq];rw[h x (by simp)];split
  .split;.exact sj λy hy=>h y (by simp only[List.map_cons,List.mem_cons];exact .inr hy)
   .rfl
  .rfl
theorem yJ{m:List (Tr bC)}{sz:Nat}:∀{ps:List (Nat×bZ)}{els:List (List D)},(∀x∈ps.map (·.2),x.ev s'.slots=x.ev s.slots)->pz m s'.slots sz els ps=pz m s.slots sz els ps
 |[],_,_=>rfl|(i,x)::r,els,h=>by
  simp[pz];rw[h x (by simp)];split
  .split;.rw[yJ λy hy=>h y (by simp only[List.map_cons,List.mem_cons];exact .inr hy)]
   .rfl
  .rfl
theorem nL{v:AV}{u:Nat×Nat×Option bC}{us:List (Nat×Nat×Option bC)}{t:List (Nat×Bool)}{rd:List (Nat×Nat×Nat)}:kS (.bX {val:=v,cX:=u::us,cB:=t,rd:=rd})=true:=by cases rd<;>rfl
theorem O5{v:AV}{u:Nat×Nat×Option bC}{us:List (Nat×Nat×Option bC)}{t:List (Nat×Bool)}{rd:List (Nat×Nat×Nat)}:kS (.bX {val:=v,cX:=us++[u],cB:=t,rd:=rd})=true:=by simp_all[kS]
theorem oV{rw:Bool}{lv cG sl sz bytes:Nat}{x y:AV}{e:fH}(h:dA s rw lv sl aO sz bytes x y=some e)(hl:kS (.bX e)=true->cG=lv)(hk:∀k∈e.rd,j9 s' k=j9 s k):dA s' rw cG sl aO sz bytes x y=some e:=by
 have O6:cF s.mem s'.mem e.rd:=λ_ _ h=>F1 (hk _ h);unfold dA at h⊢;split at h;.cases h
 .rename_i news hn;split at h
  .rename_i hall;split at h
   .split at h
    .rename_i hc;split at h;.cases h;rw[jk (m:=s.mem) O6,hn]<;>grind
     .split at h;.cases h
      .rename_i hne;cases h;rw[jk (m:=s.mem) O6,hn];simp only[hall,if_true];rw[if_pos hc,if_neg hne,hl nL]
    grind
   .split at h;.rename_i hc;cases h;rw[jk (m:=s.mem) λlv sl hk=>O6 lv sl (List.mem_cons_of_mem _ hk),hn];simp only[hall,if_true];rw[if_pos (by rw[Wr (hk _ (List.mem_cons_self ..))];exact hc)]
    grind
   .split at h
    .rename_i els hr;split at h;.cases h;rw[jk (m:=s.mem) λlv sl hk=>O6 lv sl (List.mem_cons_of_mem _ hk)];rw[l9 (O6 _ _ (List.mem_cons_self ..)),hr]<;>grind
     grind
    grind
   grind
  grind
theorem Bf{x:AV}{e:fH}(h:l5 s aO x=some e)(hk:∀k∈e.rd,j9 s' k=j9 s k):l5 s' aO x=some e:=by
 unfold l5 at h⊢;split at h;.exact h
 .split at h
  .obtain⟨zs,hz,h⟩:=aQ h;split at h;.cases h<;>simp_all[j9,bL,iA,jq,rP,rowAt]
   grind
  grind
 omega
theorem K1{row lv cG d:Nat}{x:AV}(hl:kS (.bX (zT row lv d aO x))=true->cG=lv):zT row cG d aO x=zT row lv d aO x:=by unfold zT at hl⊢<;>grind[kS,zT]
theorem Iv{x:AV}{e:fH}(h:yq s x=some e)(hk:∀k∈e.rd,j9 s' k=j9 s k):yq s' x=some e:=by
 unfold yq at h⊢;split at h;.exact h
 .split at h
  .rename_i els hr;obtain⟨zs,hz,h⟩:=aQ h;split at h;.cases h;rw[l9 (m:=s.mem) (F1 (hk _ (List.mem_cons_self ..))),hr]<;>omega
   grind
  grind
 omega
theorem K2{sz l:Nat}{hi:Option Nat}{x:AV}{e:fH}(h:HW s aO sz x l hi=some e)(hk:∀k∈e.rd,j9 s' k=j9 s k):HW s' aO sz x l hi=some e:=by
 unfold HW at h⊢;split at h
 .split at h
  .split at h;.cases h<;>simp_all[j9,bL,rowAt]
   grind
  grind
 omega
section
variable{cm:List (Tr bC)}{top pk lv cG sl ai:Nat}
theorem uc{k:Nat}{x y:AV}(h:bu cm top pk k lv sl ai x=some (y,[])):bu cm top pk k cG sl ai x=some (y,[]):=by cases x with
 |ref a b c off len sz=>
  simp[bu]at h⊢;split at h;.exact h
  .split at h<;>grind|own els o=>cases o with|full=>simp[bu]at h⊢<;>grind|cB v tz=>exact h|_=>exact h
 |gm f c=>cases c<;>exact h|_=>exact h
theorem sn:∀{l ys:List AV}{k:Nat},cL cm top pk lv sl ai k l=some (ys,[])->cL cm top pk cG sl ai k l=some (ys,[])
 |[],_,_,h=>h|x::r,ys,k,h=>by
  simp[cL]at h⊢;split at h;.rename_i y u ys' us h1 h2;simp at h;obtain⟨rfl,rfl,rfl⟩:=h;rw[uc h1,sn h2];rfl
  grind
theorem Bg{k:Nat}{x y:AV}(h:kV cm top pk lv sl ai k x=some (y,[])):kV cm top pk cG sl ai k x=some (y,[]):=by cases x with
 |agg cs=>simp only[kV]at h⊢;cases hc:cL cm top pk lv sl ai k cs with|none=>grind|some p=>obtain⟨a,b⟩:=p;rw[hc]at h;cases h;rw[sn hc];rfl
 |_=>simp only[kV]at h⊢;exact uc h
theorem vG:∀{l ys:List AV}{k:Nat},fK cm top pk lv sl ai k l=some (ys,[])->fK cm top pk cG sl ai k l=some (ys,[])
 |[],_,_,h=>h|x::r,ys,k,h=>by
  simp[fK]at h⊢;split at h;.rename_i y u ys' us h1 h2;simp at h;obtain⟨rfl,rfl,rfl⟩:=h;rw[Bg h1,vG h2];rfl
  grind
theorem La{x y:AV}(h:gu cm top pk lv sl ai x=some (y,[])):gu cm top pk cG sl ai x=some (y,[]):=by cases x with
 |iF cs=>simp only[gu]at h⊢;cases hc:fK cm top pk lv sl ai 1 cs with|none=>grind|some p=>obtain⟨a,b⟩:=p;rw[hc]at h;cases h;rw[vG hc];rfl
 |_=>simp only[gu]at h⊢;exact Bg h
end
section
variable{m m':List (Tr bC)}
theorem yK{x:AV}(h:cF m m' (di x)):hU m' x=hU m x:=by cases x with|ref lv sl ai off n sz=>simp[hU];rw[iJ h]|_=>rfl
theorem qq:∀{l:List AV},cF m m' (l.flatMap di)->iH m' l=iH m l|[],_=>rfl|x::r,h=>by simp[iH];rw[yK λlv sl hk=>h lv sl (by simp[hk]),qq λlv sl hk=>h lv sl (by simp only[List.flatMap_cons,List.mem_append];exact .inr hk)]
theorem Lb{x:AV}(h:cF m m' (qi m x)):kR m' x=kR m x/\qi m' x=qi m x:=by cases x with
 |agg cs=>exact⟨by simp only[kR];rw[qq h],rfl⟩|gm f c=>cases c<;>exact⟨rfl,rfl⟩|ff lv sl ai off n sz=>have hb:=yF (ai:=ai) (h lv sl (by simp[qi]));refine⟨?_,by simp only[qi,hb]⟩;simp[kR,hb];cases hq:gE m lv sl ai with|none=>rfl|some cs=>simp;rw[qq λcG dF hk=>h cG dF (by simp only[qi,hq,List.mem_cons];obtain⟨a,ha,hk⟩:=List.mem_flatMap.1 hk;exact .inr (List.mem_flatMap.2 ⟨a,List.mem_of_mem_drop (List.mem_of_mem_take ha),hk⟩))]
 |ref lv sl ai off n sz=>exact⟨by simp only[kR];rw[yK h],rfl⟩|_=>exact⟨rfl,rfl⟩
theorem yL:∀{l:List AV},cF m m' (l.flatMap (qi m))->vk m' l=vk m l/\l.flatMap (qi m')=l.flatMap (qi m)|[],_=>⟨rfl,rfl⟩|x::r,h=>by obtain⟨h1,h2⟩:=Lb (x:=x) λlv sl hk=>h lv sl (by simp[hk]);obtain⟨h3,h4⟩:=yL (l:=r) λlv sl hk=>h lv sl (by simp only[List.flatMap_cons,List.mem_append];exact .inr hk)<;>grind[kR,cF,qi,vk]
end
theorem vH{f:Nat}{args:List AV}{r:gB}(h:j5 call s f args=some r)(hn:xz s s' r):j5 call s' f args=some r:=by
 unfold j5 at h;split at h;.cases h
 .split at h;.cases h
  .split at h;case h_2=>cases h
   split at h;case h_2=>cases h
   cases h;obtain⟨h1,h2⟩:=yL (m:=s.mem) (m':=s'.mem) (l:=args) hn.mem;unfold j5<;>grind
theorem Iw{f lb sb vb:Nat}{args:List AV}{r:gB}(h:rO call s f lb sb vb args=some r)(hn:xz s s' r):rO call s' f lb sb vb args=some r:=by
 have hr:∃e,r=.bX e/\bL lb sb∈e.rd:=by
  unfold rO at h;repeat'(split at h)
  all_goals first|(injection h with h;subst h;exact⟨_,rfl,List.mem_cons_self ..⟩)|cases h
 obtain⟨e,rfl,hk⟩:=hr;have hb:gE s'.mem lb sb vb=gE s.mem lb sb vb:=by unfold gE;rw[hn.mem lb sb hk]
 unfold rO at h⊢<;>grind
theorem qt{shd:Bool}{f:Nat}{args:List AV}{r:gB}(h:fM call shd row s (s.mem.length-1) d aO f args=some r)(hn:xz s s' r):fM call shd row s' (s'.mem.length-1) d aO f args=some r:=by unfold fM at h⊢;cases shd with
 |false=>cases hba:om args with|some x=>rw[hba]at h;exact Iw h hn|none=>
  rw[hba]at h;simp at h⊢;split at h;.cases h
  .rename_i aJ ks hl;split at h;.cases h
   .rename_i r' cm _ _ hc;split at h;.cases h
    .rename_i v us hi;split at h;.cases h
     .rename_i u hu;cases h;have hks:cF s.mem s'.mem (iG ks):=λlv sl hk=>hn.mem lv sl (by obtain⟨p,hp,he⟩:=List.mem_map.1 hk;rw[<-he];exact yI hl p hp);rw[yH (m:=s.mem) hn.mem,hl];simp[hc,mb hks];have hlen:dS s.mem ks++u≠[]->s'.mem.length=s.mem.length:=λhne=>hn.1 (by simp only[kS];cases hz:dS s.mem ks++u with|nil=>exact absurd hz hne|cons a b=>simp);by_cases hus:us=[];.subst hus;rw[La hi];cases hu;rfl
      .have hlen:=hlen (by
       unfold j4 at hu;split at hu;.exact absurd rfl hus
       .injection hu with hu;subst hu;simp
       .cases hu);grind
 |true=>
  simp at h⊢;split at h;.cases h
  .split at h;.cases h
   .split at h;.cases h
    .split at h;.cases h
     .cases h<;>simp_all[fL,xz,Call,bz,j4,gu]
theorem Ga{f:Nat}{args:List AV}{r:gB}(h:qh call s f args=some r)(hn:xz s s' r):qh call s' f args=some r:=by
 unfold qh at h⊢;split at h;.cases h
 .split at h;.cases h
  .cases h<;>simp_all[fL,xz,Call]
theorem Lc{m m':List (Tr bC)}{x:AV}(h:cF m m' (dQ x)):xh m' x=xh m x:=by cases x with|agg cs=>simp[xh];rw[mE h]|_=>simp only[xh];rw[r8 h]
theorem yM{m m':List (Tr bC)}:∀{l:List AV},cF m m' (l.flatMap dQ)->qW m' l=qW m l|[],_=>rfl|x::r,h=>by simp[qW];rw[Lc λlv sl hk=>h lv sl (by simp[hk]),yM λlv sl hk=>h lv sl (by simp only[List.flatMap_cons,List.mem_append];exact .inr hk)]
theorem Ld{m:List (Tr bC)}{x y:AV}{ks:List (Nat×Nat)}(h:xh m x=some (y,ks)):∀p∈ks,bL p.1 p.2∈dQ x:=by cases x with|agg cs=>obtain⟨⟨ys,k⟩,h1,h⟩:=aN h;cases h;exact mF h1|_=>simp only[xh]at h;exact r9 h
theorem yN{m:List (Tr bC)}:∀{xs ys:List AV}{ks:List (Nat×Nat)},qW m xs=some (ys,ks)->∀p∈ks,bL p.1 p.2∈xs.flatMap dQ
 |[],_,_,h=>by cases h;simp|x::r,_,_,h=>by
  simp[qW]at h;split at h
  .rename_i h1 h2;cases h;intro p hp;rw[List.flatMap_cons,List.mem_append];rcases List.mem_append.1 hp with hp|hp;.exact .inl (Ld h1 p hp)
   .exact .inr (yN h2 p hp)
  grind
theorem Gb{f:Nat}{args:List AV}{r:gB}(h:nC call s aO f args=some r)(hn:xz s s' r):nC call s' aO f args=some r:=by
 unfold nC at h⊢;split at h;.cases h
 .rename_i aJ ks hl;split at h;.cases h
  .rename_i r' cm _ _ hc;split at h;.rename_i v hi;cases h;have hm:=hn.mem;rw[yM hm,hl];simp[hc,hi];rw[mb (m:=s.mem) (m':=s'.mem) λlv sl hk=>hm lv sl ?_];obtain⟨p,hp,he⟩:=List.mem_map.1 hk;exact he▸yN hl p hp
   grind
theorem vI{m m':List (Tr bC)}:∀{l:List AV},cF m m' (l.flatMap di)->oS m' l=oS m l|[],_=>rfl|x::r,h=>by simp[oS];rw[nK λlv sl hk=>h lv sl (by simp[hk]),vI λlv sl hk=>h lv sl (by simp only[List.flatMap_cons,List.mem_append];exact .inr hk)]
theorem Ix{m m':List (Tr bC)}{x:AV}(h:cF m m' (dQ x)):qX m' x=qX m x:=by cases x with|agg cs=>simp[qX];rw[vI h]|_=>simp only[qX];rw[nK h]
theorem vJ{m m':List (Tr bC)}:∀{l:List AV},cF m m' (l.flatMap dQ)->qg m' l=qg m l|[],_=>rfl|x::r,h=>by simp[qg];rw[Ix λlv sl hk=>h lv sl (by simp[hk]),vJ λlv sl hk=>h lv sl (by simp only[List.flatMap_cons,List.mem_append];exact .inr hk)]
theorem Gc{f:Nat}{args:List AV}{r:gB}(h:nD call s aO f args=some r)(hn:xz s s' r):nD call s' aO f args=some r:=by
 unfold nD at h⊢;split at h;.cases h
 .rename_i aJ hl;split at h;.cases h
  .split at h;.cases h;have hm:=hn.mem;rw[vJ hm,hl]<;>grind
   grind
theorem O7{op:cq}{r:gB}(h:op.run call sh s row d aO=some r)(hs:∀x∈op.ju,x.ev s'.slots=x.ev s.slots)(hn:xz s s' r):op.run call sh s' row d aO=some r:=by cases op with
 |alloc z=>simp only[cq.run]at h⊢;injection h with h;subst h;rw[hn.1 nL]|box x=>simp only[cq.ju,List.mem_cons,List.not_mem_nil,or_false,forall_eq]at hs;simp only[cq.run,hs]at h⊢;obtain⟨cs,hcs,rfl⟩:=aN h;rw[hcs,hn.1 nL];rfl|makeSlice sz b z x y=>
  simp only[cq.ju,List.mem_cons,List.not_mem_nil,or_false,forall_eq_or_imp,forall_eq]at hs;simp only[cq.run,hs.1,hs.2]at h⊢;split at h
  .split at h;.rename_i hc;injection h with h;subst h;rw[if_pos hc,hn.1 nL]
   .cases h
  .cases h|build z ps=>simp only[cq.run]at h⊢;rw[sj hs];exact h|buildSlice sz n z ps=>simp only[cq.run]at h⊢;cases hr2:Nat.beq row 2with
  |true=>
   rw[hr2]at h;simp only at h⊢;split at h;.cases h
   .cases hf:pq s.slots ((List.replicate n z).flatten.map .d) (ps.map λp=>(p.1*sz,sz,p.2))with|none=>rw[hf]at h;cases h|some cs=>rw[hf]at h;simp only[Option.map_some,Option.some.injEq]at h;subst h;rw[sj (s:=s) (λx hx=>hs x (by simp only[List.map_map]at hx;exact hx)),hf,hn.1 nL];rfl
  |false=>
  rw[hr2]at h;simp only at h⊢;rw[yJ hs];split at h;.cases h
  .rename_i els ks hf;split at h;.injection h with h;subst h;rw[uC hf hn.mem];simp only[mb (m:=s.mem) hn.mem]
   .split at h;.cases h
    .rename_i hk;injection h with h;subst h;rw[uC hf hn.mem];simp only[mb (m:=s.mem) hn.mem];rw[hn.1 O5,if_neg hk]
 |load sz agg x=>simp only[cq.ju,List.mem_cons,List.not_mem_nil,or_false,forall_eq]at hs;simp only[cq.run,hs]at h⊢;obtain⟨cs,hcs,h⟩:=aQ h;obtain⟨v,hv,rfl⟩:=aN h;rw[Iu (m:=s.mem) hn.mem,hcs];simp only[Option.bind_some,hv,Option.map_some]|store sz x y=>simp only[cq.ju,List.mem_cons,List.not_mem_nil,or_false,forall_eq_or_imp,forall_eq]at hs;simp only[cq.run,hs.1,hs.2]at h⊢;obtain⟨e,he,rfl⟩:=aN h;rw[F2 he hn.mem];rfl|append sz b x y=>simp only[cq.ju,List.mem_cons,List.not_mem_nil,or_false,forall_eq_or_imp,forall_eq]at hs;simp only[cq.run,hs.1,hs.2]at h⊢;obtain⟨e,he,rfl⟩:=aN h;rw[KX (t':=s.mem.length-1),oV he (λhl=>by rw[hn.1 hl]) hn.2];rfl|mkSet=>simp only[cq.run]at h⊢;injection h with h;subst h;rw[hn.1 nL]|ZG x=>simp only[cq.ju,List.mem_cons,List.not_mem_nil,or_false,forall_eq]at hs;simp only[cq.run,hs]at h⊢;obtain⟨els,hel,h⟩:=aQ h;obtain⟨l,hl,rfl⟩:=aN h;rw[iJ (m:=s.mem) hn.mem,hel];simp only[Option.bind_some,hl,Option.map_some]|HS x y=>
  simp only[cq.ju,List.mem_cons,List.not_mem_nil,or_false,forall_eq_or_imp,forall_eq]at hs;simp only[cq.run,hs.1,hs.2]at h⊢;split at h;.rename_i lv sl ai b h1 h2;obtain⟨ks,hk,rfl⟩:=aN h;rw[yG (hn.mem _ _ (List.mem_cons_self ..)),hk];rfl
  .cases h|HT x y=>
  simp only[cq.ju,List.mem_cons,List.not_mem_nil,or_false,forall_eq_or_imp,forall_eq]at hs;simp only[cq.run,hs.1,hs.2]at h⊢;split at h;.rename_i lv sl ai b h1 h2;obtain⟨ks,hk,rfl⟩:=aN h;rw[yG (hn.mem _ _ (List.mem_cons_self ..)),hk];rfl
  .cases h|od sz b z x n=>
  simp only[cq.ju,List.mem_cons,List.not_mem_nil,or_false,forall_eq_or_imp,forall_eq]at hs;simp only[cq.run,hs.1,hs.2]at h⊢;obtain⟨k,hk,h⟩:=aQ h;simp only[hk,Option.bind_some];split at h;.rename_i hc;rw[if_pos hc];obtain⟨e,he,rfl⟩:=aN h;rw[oV he (λhl=>by rw[hn.1 hl]) hn.2];rfl
  .cases h|HQ x=>
  simp only[cq.ju,List.mem_cons,List.not_mem_nil,or_false,forall_eq]at hs;simp only[cq.run,hs]at h⊢;split at h
  .obtain⟨E,hE,rfl⟩:=aN h;unfold HX at hE⊢;split at hE
   .rename_i cG dF ai off len sz he;split at hE
    .rename_i els hr;split at hE;.rename_i hb;injection hE with hE;subst hE;rw[l9 (hn.mem _ _ (List.mem_cons_self ..)),hr];simp only[hb];rw[hn.1 nL];rfl
     .cases hE
    .cases hE
   .cases hE
  .injection h with h;subst h;rw[K1 λhl=>by rw[hn.1 hl]]|compact x=>simp only[cq.ju,List.mem_cons,List.not_mem_nil,or_false,forall_eq]at hs;simp only[cq.run,hs]at h⊢;obtain⟨e,he,rfl⟩:=aN h;rw[Bf he hn.2];rfl|sort x=>simp only[cq.ju,List.mem_cons,List.not_mem_nil,or_false,forall_eq]at hs;simp only[cq.run,hs]at h⊢;obtain⟨e,he,rfl⟩:=aN h;rw[Iv he hn.2];rfl|clone sz b x=>
  simp only[cq.ju,List.mem_cons,List.not_mem_nil,or_false,forall_eq]at hs;simp only[cq.run,hs]at h⊢;split at h
  .rename_i els hq;obtain⟨e,he,rfl⟩:=aN h;rw[oV he (λhl=>by rw[hn.1 hl]) hn.2];have:∃els,dm s'.mem (x.ev s.slots)=some els:=by
    refine⟨els,?_⟩;rw[iJ (m:=s.mem) λlv sl hk=>hn.mem lv sl ?_,hq];unfold dA at he;split at he;.cases he
    .split at he
     .simp only at he;split at he
      .split at he;.injection he with he;subst he;exact hk
       .split at he;.cases he
        .injection he with he;subst he;exact hk
      .cases he
     .cases he
   obtain⟨els',h'⟩:=this;rw[h'];rfl
  .cases h|copy sz x y=>
  simp only[cq.ju,List.mem_cons,List.not_mem_nil,or_false,forall_eq_or_imp,forall_eq]at hs;simp only[cq.run,hs.1,hs.2]at h⊢;split at h
  .rename_i lv sl ai off n sz' news hx hy;split at h
   .rename_i cs hb;split at h;.rename_i hc;injection h with h;subst h;have hm:=hn.mem;rw[jk (m:=s.mem) λlv sl hk=>hm lv sl (List.mem_cons_of_mem _ hk),hy,hx];simp only;rw[yF (hm _ _ (List.mem_cons_self ..)),hb];simp only;rw[if_pos hc]
    .cases h
   .cases h
  .rename_i lv sl ai off n sz' news hx hy;split at h
   .rename_i cs hb;split at h;.rename_i hc;injection h with h;subst h;have hm:=hn.mem;rw[jk (m:=s.mem) λlv sl hk=>hm lv sl (List.mem_cons_of_mem _ hk),hy,hx];simp only;rw[l9 (hm _ _ (List.mem_cons_self ..)),hb];simp only;rw[if_pos hc]
    .cases h
   .cases h
  .cases h|clear sz z x=>
  simp only[cq.ju,List.mem_cons,List.not_mem_nil,or_false,forall_eq]at hs;simp only[cq.run,hs]at h⊢;split at h
  .split at h
   .rename_i els hr;split at h;.rename_i hc;injection h with h;subst h;rw[l9 (hn.mem _ _ (List.mem_cons_self ..)),hr];simp only;rw[if_pos hc]
    .cases h
   .cases h
  .cases h|call f args=>simp only[cq.run]at h⊢;rw[tG (l:=args) hs];cases h7:Nat.beq row 7with|true=>rw[h7]at h;exact vH h hn|false=>cases h8:Nat.beq row 8with|true=>rw[h7,h8]at h;exact Ga h hn|false=>cases h9:Nat.beq row 9with|true=>rw[h7,h8,h9]at h;exact Gb h hn|false=>cases h10:Nat.beq row 10with|true=>rw[h7,h8,h9,h10]at h;exact Gc h hn|false=>rw[h7,h8,h9,h10]at h;exact qt h hn
 |vi f args=>simp only[cq.run]at h⊢;rw[tG (l:=args) hs];cases ZO:sh f with|true=>rw[ZO]at h;exact qt h hn|false=>rw[ZO]at h;exact vH h hn
 |AF x args=>
  simp only[cq.ju,List.mem_cons,forall_eq_or_imp]at hs;simp only[cq.run,hs.1]at h⊢;split at h;.rw[tG hs.2];exact qt h hn
  .cases h|makeFunc f args=>simp only[cq.run]at h⊢;rw[tG (l:=args) hs];exact h|slice sz x a b c=>
  simp only[cq.ju,List.mem_cons,List.mem_append,forall_eq_or_imp]at hs;simp only[cq.run,hs.1]at h⊢;rw[ke λy hy=>hs.2 y (.inl (.inl hy)),ke λy hy=>hs.2 y (.inl (.inr hy)),ke λy hy=>hs.2 y (.inr hy)];split at h
  .split at h;.obtain⟨e,he,rfl⟩:=aN h;rw[K2 he hn.2];rfl
   .exact h
  .cases h|qf x a b=>
  simp only[cq.ju,List.mem_cons,List.mem_append,forall_eq_or_imp]at hs;simp only[cq.run,hs.1]at h⊢;split at h;.rw[ke λy hy=>hs.2 y (.inl hy),ke λy hy=>hs.2 y (.inr hy)];exact h
  .cases h|Db n=>exact h|bad=>exact h|pick a b c=>simp only[cq.ju,List.mem_cons,List.not_mem_nil,or_false,forall_eq_or_imp,forall_eq]at hs;simp only[cq.run,hs.1,hs.2.1,hs.2.2]at h⊢;exact h|nilCheck x|yp _ x|un _ x|conv _ x|field _ _ _ x|fieldAddr _ x|extract x _|len x|Fy x|HR x|ZH x|sliceB _ _ x|rK _ _ _ x=>simp only[cq.ju,List.mem_cons,List.not_mem_nil,or_false,forall_eq]at hs;simp only[cq.run,hs]at h⊢;exact h|bin _ x y|VT _ x y|VU _ _ _ x y|indexAddr _ x y|j0 _ _ x y|qd _ _ _ x y|qe x y|Fz x y|FA x y|grow _ x y=>simp only[cq.ju,List.mem_cons,List.not_mem_nil,or_false,forall_eq_or_imp,forall_eq]at hs;simp only[cq.run,hs.1,hs.2]at h⊢;exact h
end
end Go.bI
