/- What an operation depends on. -/
import Derived.Test.YtkdilffhbejjaaaGreatEngU
set_option linter.unusedVariables false
set_option linter.unusedSimpArgs false
namespace Go.bM
open Go
def kO(s:St)(k:Nat×Nat×Nat):Option bH×Option Unit:=if k.1=0then(aN s.mem k.2.1 k.2.2,none)else if k.1=1/\k.2.2=0then(none,s.aK.get? k.2.1)else(none,none)
theorem Gp{s s':St}{lv sl:Nat}(h:kO s' (cB lv sl)=kO s (cB lv sl)):aN s'.mem lv sl=aN s.mem lv sl:=by simpa[kO,cB]using h
theorem Xw{s s':St}{v:Nat}(h:kO s' (kH v)=kO s (kH v)):s'.aK.get? v=s.aK.get? v:=by simpa[kO,kH]using h
def cO(m m':List (Tr bH))(ks:List (Nat×Nat×Nat)):Prop:=∀lv sl,cB lv sl∈ks->aN m' lv sl=aN m lv sl
section
variable{m m':List (Tr bH)}
theorem mT{lv sl au:Nat}(h:aN m' lv sl=aN m lv sl):rowAt m' lv sl au=rowAt m lv sl au:=by unfold rowAt;rw[h]
theorem mU{ks:List (Nat×Nat)}(h:cO m m' (jg ks)):ew m' ks=ew m ks:=List.map_congr_left λk hk=>by rw[h k.1 k.2 (im.2 ⟨k,hk,rfl⟩)]
theorem zd{lv sl au:Nat}(h:aN m' lv sl=aN m lv sl):oQ m' lv sl au=oQ m lv sl au:=by unfold oQ;rw[h]
theorem ze{lv sl au:Nat}(h:aN m' lv sl=aN m lv sl):setAt m' lv sl au=setAt m lv sl au:=by unfold setAt;rw[h]
theorem K1{row t t' d:Nat}:(uL row t d).2=(uL row t' d).2:=by grind[uL]
theorem jk{x:AV}(h:cO m m' (dD x)):dG m' x=dG m x:=by cases x with|ref lv sl au off n sz=>simp[dG];grind[dD,cO,rN]|d x=>cases x<;>rfl|_=>rfl
theorem jN{x:AV}(h:cO m m' (dD x)):gB m' x=gB m x:=by
 unfold gB;split;.rfl
 .exact jk h
theorem OL{x:AV}(h:cO m m' (dD x)):An m' x=An m x:=by cases x with|ref lv sl au off n sz=>simp[An];rw[jk h]|own els o=>cases o<;>rfl|_=>rfl
theorem RB{x:AV}{y:D}{ks:List (Nat×Nat)}(h:An m x=some (y,ks))(hs:cO m m' (jg ks)):An m' x=some (y,ks):=by cases x with
 |ref lv sl au off n sz=>simp only[An]at h⊢;cases he:dG m (.ref lv sl au off n sz)with|none=>grind|some els=>rw[he]at h;cases h;rw[jk (m:=m) (λcM cZ hk=>hs cM cZ (by simpa[dD,jg]using hk)),he];rfl
 |own els o=>cases o<;>exact h|_=>exact h
theorem xL:∀{l:List AV}{ys:List D}{ks:List (Nat×Nat)},DO m l=some (ys,ks)->cO m m' (jg ks)->DO m' l=some (ys,ks)
 |[],_,_,h,_=>h|x::r,ys,ks,h,hs=>by
  simp[DO]at h⊢;split at h;.rename_i y k ys' ks' h1 h2;cases h;rw[RB h1 λlv sl hk=>hs lv sl (by simp only[jg,fw,bj]at hk⊢;exact .inl hk),xL h2 λlv sl hk=>hs lv sl (by simp only[jg,fw,bj]at hk⊢;exact .inr hk)]
  grind
theorem K2{x:AV}{ys:List D}{ks:List (Nat×Nat)}(h:Ea m x=some (ys,ks))(hs:cO m m' (jg ks)):Ea m' x=some (ys,ks):=by unfold Ea at h⊢;cases hc:cellsOf x with|none=>grind|some cs=>rw[hc]at h;exact xL h hs
theorem uY{s:Tr AV}{sz:Nat}:∀{ps:List (Nat×cc)}{els els':List (List D)}{ks:List (Nat×Nat)},p6 m s sz els ps=some (els',ks)->cO m m' (jg ks)->p6 m' s sz els ps=some (els',ks)
 |[],_,_,_,h,_=>h|(i,x)::r,els,els',ks,h,hs=>by
  simp[p6]at h⊢;split at h
  .rename_i e ks1 he;split at h
   .rename_i hc;split at h;.rename_i xI ks2 hf;cases h;rw[K2 he λlv sl hk=>hs lv sl (by simp[jg,fw,bj]at hk⊢;exact .inl hk)];simp[hc,and_self,ii];rw[uY hf λlv sl hk=>hs lv sl (by simp[jg,fw,bj]at hk⊢;exact .inr hk)]
    grind
   grind
  grind
theorem Iw{sz:Nat}{x:AV}(h:cO m m' (dD x)):rR m' sz x=rR m sz x:=by cases x with|ptr lv sl au i off=>grind[dD,cO,rR]|_=>rfl
theorem Gq{sz:Nat}{p v:AV}{e:fT}(h:qK m sz p v=some e)(hs:cO m m' e.rd):qK m' sz p v=some e:=by
 unfold qK at h⊢;split at h
 .rename_i lv sl au i off new hc;have key:cB lv sl∈e.rd->aN m' lv sl=aN m lv sl:=λhk=>hs lv sl hk;split at h
  .split at h;.grind
   .rename_i v' els hg;split at h
    .rename_i h1;split at h
     .rename_i e' ds ks hi hd;split at h;.cases h;rw[xL hd λlv sl hk=>hs lv sl (dl _ hk)];have hfr:ew m' ks=ew m ks:=mU (m:=m) λlv sl hk=>hs lv sl (dl _ hk)<;>grind
      grind
     grind
    grind
   .cases h
   .cases h
   grind
  grind
 omega
theorem ot{x:AV}(h:cO m m' (dD x)):cX m' x=cX m x:=by cases x with|ref lv sl au off n sz=>simp[cX];rw[jk h]|own els o=>cases o<;>rfl|fk f c=>cases c<;>rfl|_=>rfl
theorem sC{x:AV}(h:cO m m' (dD x)):eR m' x=eR m x:=by
 unfold eR;split;.rfl
 .rfl
 .rw[OL h]
theorem nG:∀{l:List AV},cO m m' (l.flatMap dD)->fG m' l=fG m l|[],_=>rfl|x::r,h=>by simp[fG];rw[sC λlv sl hk=>h lv sl (by simp[hk]),nG λlv sl hk=>h lv sl (by simp only[d7,bj];exact .inr hk)]
theorem La{x:AV}(h:cO m m' (eO x)):xC m' x=xC m x:=by cases x with|agg cs=>simp[xC];rw[nG h]|_=>simp only[xC];rw[ot h]
theorem zf:∀{l:List AV},cO m m' (l.flatMap eO)->rO m' l=rO m l|[],_=>rfl|x::r,h=>by simp[rO];rw[La λlv sl hk=>h lv sl (by simp[hk]),zf λlv sl hk=>h lv sl (by simp only[d7,bj];exact .inr hk)]
end
section
variable{m:List (Tr bH)}
theorem OM{x:AV}{y:D}{ks:List (Nat×Nat)}(h:An m x=some (y,ks)):∀p∈ks,cB p.1 p.2∈dD x:=by cases x with
 |ref lv sl au off n sz=>obtain⟨els,_,h⟩:=aQ h<;>grind[An,cB,dD]|d x=>cases h;simp|own els o=>cases o<;>simp only[An]at h<;>first|(injection h with h;injection h with _ h2;subst h2;simp)|cases h
 |_=>cases h
theorem sD{x y:AV}{ks:List (Nat×Nat)}(h:eR m x=some (y,ks)):∀p∈ks,cB p.1 p.2∈dD x:=by
 unfold eR at h;split at h;.grind
 .grind
 .obtain⟨⟨z,k⟩,h1,h⟩:=aQ h;cases h;exact OM h1
theorem nH:∀{xs ys:List AV}{ks:List (Nat×Nat)},fG m xs=some (ys,ks)->∀p∈ks,cB p.1 p.2∈xs.flatMap dD
 |[],_,_,h=>by cases h;simp|x::r,_,_,h=>by
  simp[fG]at h;split at h
  .rename_i h1 h2;cases h;intro p hp;rw[d7,bj];rcases bj.1 hp with hp|hp;.exact .inl (sD h1 p hp)
   .exact .inr (nH h2 p hp)
  grind
theorem Lb{x y:AV}{ks:List (Nat×Nat)}(h:xC m x=some (y,ks)):∀p∈ks,cB p.1 p.2∈eO x:=by
 have one:(cX m x).map (λy=>(y,([]:List (Nat×Nat))))=some (y,ks)->∀p∈ks,cB p.1 p.2∈eO x:=by simp_all
 cases x with|agg cs=>obtain⟨⟨ys,k⟩,h1,h⟩:=aQ h;cases h;exact nH h1|_=>exact one h
theorem zg:∀{xs ys:List AV}{ks:List (Nat×Nat)},rO m xs=some (ys,ks)->∀p∈ks,cB p.1 p.2∈xs.flatMap eO
 |[],_,_,h=>by cases h;simp|x::r,_,_,h=>by
  simp[rO]at h;split at h
  .rename_i h1 h2;cases h;intro p hp;rw[d7,bj];rcases bj.1 hp with hp|hp;.exact .inl (Lb h1 p hp)
   .exact .inr (zg h2 p hp)
  grind
end
def Av(s s':St):gT->Prop|.ck e=>(lH (.ck e)=true->s'.mem.length=s.mem.length)/\∀k∈e.rd,kO s' k=kO s k|.all ..=>s'.mem=s.mem/\s'.aK=s.aK/\s'.nv=s.nv
theorem Av.mem{s s':St}{e:fT}(h:Av s s' (.ck e)):cO s.mem s'.mem e.rd:=λ_ _ hk=>Gp (h.2 _ hk)
section
variable{call:Call}{sh:Nat->Bool}{s s':St}{row d aT:Nat}
theorem tX{l:List cc}(h:∀x∈l,x.ev s'.slots=x.ev s.slots):DF s'.slots l=DF s.slots l:=List.map_congr_left h
theorem kP{x:Option cc}{n:Nat}(h:∀y∈x.toList,y.ev s'.slots=y.ev s.slots):fJ x s'.slots n=fJ x s.slots n:=by cases x with|none=>rfl|some y=>grind[cc.ev,fJ]
theorem sE:∀{ps:List (Nat×Nat×cc)}{cs:List AV},(∀x∈ps.map (·.2.2),x.ev s'.slots=x.ev s.slots)->p5 s'.slots cs ps=p5 s.slots cs ps
 |[],_,_=>rfl|(off,sz,x)::r,cs,h=>by
  simp[p5];rw[h x (by simp)];split
  .split;.exact sE λy hy=>h y (by simp only[fj,dk];exact .inr hy)
   .rfl
  .rfl
theorem zh{m:List (Tr bH)}{sz:Nat}:∀{ps:List (Nat×cc)}{els:List (List D)},(∀x∈ps.map (·.2),x.ev s'.slots=x.ev s.slots)->p6 m s'.slots sz els ps=p6 m s.slots sz els ps
 |[],_,_=>rfl|(i,x)::r,els,h=>by
  simp[p6];rw[h x (by simp)];split
  .split;.rw[zh λy hy=>h y (by simp only[fj,dk];exact .inr hy)]
   .rfl
  .rfl
theorem mV{v:AV}{u:Nat×Nat×Option bH}{us:List (Nat×Nat×Option bH)}{t:List (Nat×Bool)}{rd:List (Nat×Nat×Nat)}:lH (.ck {val:=v,di:=u::us,cK:=t,rd:=rd})=true:=by cases rd<;>rfl
theorem ON{v:AV}{u:Nat×Nat×Option bH}{us:List (Nat×Nat×Option bH)}{t:List (Nat×Bool)}{rd:List (Nat×Nat×Nat)}:lH (.ck {val:=v,di:=us++[u],cK:=t,rd:=rd})=true:=by simp_all[lH]
theorem pQ{rw:Bool}{lv cM sl sz bytes:Nat}{x y:AV}{e:fT}(h:dP s rw lv sl aT sz bytes x y=some e)(hl:lH (.ck e)=true->cM=lv)(hk:∀k∈e.rd,kO s' k=kO s k):dP s' rw cM sl aT sz bytes x y=some e:=by
 have OO:cO s.mem s'.mem e.rd:=λ_ _ h=>Gp (hk _ h);unfold dP at h⊢;split at h;.cases h
 .rename_i news hn;split at h
  .rename_i hall;split at h
   .split at h
    .rename_i hc;split at h;.cases h;rw[jN (m:=s.mem) OO,hn]<;>grind
     .split at h;.cases h
      .rename_i hne;cases h;rw[jN (m:=s.mem) OO,hn];simp only[hall,ii];rw[bb hc,be hne,hl mV]
    grind
   .split at h;.rename_i hc;cases h;rw[jN (m:=s.mem) λlv sl hk=>OO lv sl (dl _ hk),hn];simp only[hall,ii];rw[bb (by rw[Xw (hk _ (cb ..))];exact hc)]
    grind
   .split at h
    .rename_i els hr;split at h;.cases h;rw[jN (m:=s.mem) λlv sl hk=>OO lv sl (dl _ hk)];rw[mT (OO _ _ (cb ..)),hr]<;>grind
     grind
    grind
   grind
  grind
theorem BF{x:AV}{e:fT}(h:mO s aT x=some e)(hk:∀k∈e.rd,kO s' k=kO s k):mO s' aT x=some e:=by
 unfold mO at h⊢;split at h;.exact h
 .split at h
  .obtain⟨zs,hz,h⟩:=aV h;split at h;.cases h<;>simp_all[kO,cB,iX,jR,sn,rowAt]
   grind
  grind
 omega
theorem Lc{row lv cM d:Nat}{x:AV}(hl:lH (.ck (Ao row lv d aT x))=true->cM=lv):Ao row cM d aT x=Ao row lv d aT x:=by unfold Ao at hl⊢<;>grind[lH,Ao]
theorem Ix{x:AV}{e:fT}(h:yT s x=some e)(hk:∀k∈e.rd,kO s' k=kO s k):yT s' x=some e:=by
 unfold yT at h⊢;split at h;.exact h
 .split at h
  .rename_i els hr;obtain⟨zs,hz,h⟩:=aV h;split at h;.cases h;rw[mT (m:=s.mem) (Gp (hk _ (cb ..))),hr]<;>omega
   grind
  grind
 omega
theorem Ld{sz l:Nat}{hi:Option Nat}{x:AV}{e:fT}(h:HX s aT sz x l hi=some e)(hk:∀k∈e.rd,kO s' k=kO s k):HX s' aT sz x l hi=some e:=by
 unfold HX at h⊢;split at h
 .split at h
  .split at h;.cases h<;>simp_all[kO,cB,rowAt]
   grind
  grind
 omega
section
variable{cm:List (Tr bH)}{top pk lv cM sl au:Nat}
theorem uA{k:Nat}{x y:AV}(h:bA cm top pk k lv sl au x=some (y,[])):bA cm top pk k cM sl au x=some (y,[]):=by cases x with
 |ref a b c off len sz=>
  simp[bA]at h⊢;split at h;.exact h
  .split at h<;>grind|own els o=>cases o with|full=>simp[bA]at h⊢<;>grind|cK v tz=>exact h|_=>exact h
 |fk f c=>cases c<;>exact h|_=>exact h
theorem sF:∀{l ys:List AV}{k:Nat},dH cm top pk lv sl au k l=some (ys,[])->dH cm top pk cM sl au k l=some (ys,[])
 |[],_,_,h=>h|x::r,ys,k,h=>by
  simp[dH]at h⊢;split at h;.rename_i y u ys' us h1 h2;simp at h;obtain⟨rfl,rfl,rfl⟩:=h;rw[uA h1,sF h2];rfl
  grind
theorem BG{k:Nat}{x y:AV}(h:lM cm top pk lv sl au k x=some (y,[])):lM cm top pk cM sl au k x=some (y,[]):=by cases x with
 |agg cs=>simp only[lM]at h⊢;cases hc:dH cm top pk lv sl au k cs with|none=>grind|some p=>obtain⟨a,b⟩:=p;rw[hc]at h;cases h;rw[sF hc];rfl
 |_=>simp only[lM]at h⊢;exact uA h
theorem we:∀{l ys:List AV}{k:Nat},fX cm top pk lv sl au k l=some (ys,[])->fX cm top pk cM sl au k l=some (ys,[])
 |[],_,_,h=>h|x::r,ys,k,h=>by
  simp[fX]at h⊢;split at h;.rename_i y u ys' us h1 h2;simp at h;obtain⟨rfl,rfl,rfl⟩:=h;rw[BG h1,we h2];rfl
  grind
theorem Le{x y:AV}(h:iN cm top pk lv sl au x=some (y,[])):iN cm top pk cM sl au x=some (y,[]):=by cases x with
 |jF cs=>simp only[iN]at h⊢;cases hc:fX cm top pk lv sl au 1 cs with|none=>grind|some p=>obtain⟨a,b⟩:=p;rw[hc]at h;cases h;rw[we hc];rfl
 |_=>simp only[iN]at h⊢;exact BG h
end
section
variable{m m':List (Tr bH)}
theorem zi{x:AV}(h:cO m m' (dD x)):iO m' x=iO m x:=by cases x with|ref lv sl au off n sz=>simp[iO];rw[jk h]|_=>rfl
theorem qR:∀{l:List AV},cO m m' (l.flatMap dD)->jh m' l=jh m l|[],_=>rfl|x::r,h=>by simp[jh];rw[zi λlv sl hk=>h lv sl (by simp[hk]),qR λlv sl hk=>h lv sl (by simp only[d7,bj];exact .inr hk)]
theorem Lg{x:AV}(h:cO m m' (qJ m x)):lG m' x=lG m x/\qJ m' x=qJ m x:=by cases x with
 |agg cs=>exact⟨by simp only[lG];rw[qR h],rfl⟩|fk f c=>cases c<;>exact⟨rfl,rfl⟩|fF lv sl au off n sz=>have hb:=zd (au:=au) (h lv sl (by simp[qJ]));refine⟨?_,by simp only[qJ,hb]⟩;simp[lG,hb];cases hq:oQ m lv sl au with|none=>rfl|some cs=>simp;rw[qR λcM cZ hk=>h cM cZ (by simp only[qJ,hq,dk];obtain⟨a,ha,hk⟩:=m7.1 hk;exact .inr (m7.2 ⟨a,ns (kh ha),hk⟩))]
 |ref lv sl au off n sz=>exact⟨by simp only[lG];rw[zi h],rfl⟩|_=>exact⟨rfl,rfl⟩
theorem zj:∀{l:List AV},cO m m' (l.flatMap (qJ m))->vG m' l=vG m l/\l.flatMap (qJ m')=l.flatMap (qJ m)|[],_=>⟨rfl,rfl⟩|x::r,h=>by obtain⟨h1,h2⟩:=Lg (x:=x) λlv sl hk=>h lv sl (by simp[hk]);obtain⟨h3,h4⟩:=zj (l:=r) λlv sl hk=>h lv sl (by simp only[d7,bj];exact .inr hk)<;>grind[lG,cO,qJ,vG]
end
theorem wg{f:Nat}{args:List AV}{r:gT}(h:kL call s f args=some r)(hn:Av s s' r):kL call s' f args=some r:=by
 unfold kL at h;split at h;.cases h
 .split at h;.cases h
  .split at h;case h_2=>cases h
   split at h;case h_2=>cases h
   cases h;obtain⟨h1,h2⟩:=zj (m:=s.mem) (m':=s'.mem) (l:=args) hn.mem;unfold kL<;>grind
theorem qS{shd:Bool}{f:Nat}{args:List AV}{r:gT}(h:gA call shd row s (s.mem.length-1) d aT f args=some r)(hn:Av s s' r):gA call shd row s' (s'.mem.length-1) d aT f args=some r:=by
 unfold gA at h⊢
 cases shd with|false=>
  simp at h⊢;split at h;.cases h
  .rename_i aO ks hl;split at h;.cases h
   .rename_i r' cm _ _ hc;split at h;.cases h
    .rename_i v us hi;split at h;.cases h
     .rename_i u hu;cases h;have hks:cO s.mem s'.mem (jg ks):=λlv sl hk=>hn.mem lv sl (by obtain⟨p,hp,he⟩:=im.1 hk;rw[<-he];exact zg hl p hp);rw[zf (m:=s.mem) hn.mem,hl];simp[hc,mU hks];have hlen:ew s.mem ks++u≠[]->s'.mem.length=s.mem.length:=λhne=>hn.1 (by simp only[lH];cases hz:ew s.mem ks++u with|nil=>exact absurd hz hne|cons a b=>simp);by_cases hus:us=[];.subst hus;rw[Le hi];cases hu;rfl
      .have hlen:=hlen (by
       unfold kK at hu;split at hu;.exact absurd rfl hus
       .injection hu with hu;subst hu;simp
       .cases hu);grind|true=>
  simp at h⊢;split at h;.cases h
  .split at h;.cases h
   .split at h;.cases h
    .split at h;.cases h
     .cases h<;>simp_all[fY,Av,Call,bF,kK,iN]
theorem Gr{f:Nat}{args:List AV}{r:gT}(h:qI call s f args=some r)(hn:Av s s' r):qI call s' f args=some r:=by
 unfold qI at h⊢;split at h;.cases h
 .split at h;.cases h
  .cases h<;>simp_all[fY,Av,Call]
theorem Lh{m m':List (Tr bH)}{x:AV}(h:cO m m' (eO x)):xD m' x=xD m x:=by cases x with|agg cs=>simp[xD];rw[nG h]|_=>simp only[xD];rw[sC h]
theorem zk{m m':List (Tr bH)}:∀{l:List AV},cO m m' (l.flatMap eO)->rP m' l=rP m l|[],_=>rfl|x::r,h=>by simp[rP];rw[Lh λlv sl hk=>h lv sl (by simp[hk]),zk λlv sl hk=>h lv sl (by simp only[d7,bj];exact .inr hk)]
theorem Li{m:List (Tr bH)}{x y:AV}{ks:List (Nat×Nat)}(h:xD m x=some (y,ks)):∀p∈ks,cB p.1 p.2∈eO x:=by cases x with|agg cs=>obtain⟨⟨ys,k⟩,h1,h⟩:=aQ h;cases h;exact nH h1|_=>simp only[xD]at h;exact sD h
theorem zm{m:List (Tr bH)}:∀{xs ys:List AV}{ks:List (Nat×Nat)},rP m xs=some (ys,ks)->∀p∈ks,cB p.1 p.2∈xs.flatMap eO
 |[],_,_,h=>by cases h;simp|x::r,_,_,h=>by
  simp[rP]at h;split at h
  .rename_i h1 h2;cases h;intro p hp;rw[d7,bj];rcases bj.1 hp with hp|hp;.exact .inl (Li h1 p hp)
   .exact .inr (zm h2 p hp)
  grind
theorem Gs{f:Nat}{args:List AV}{r:gT}(h:oa call s aT f args=some r)(hn:Av s s' r):oa call s' aT f args=some r:=by
 unfold oa at h⊢;split at h;.cases h
 .rename_i aO ks hl;split at h;.cases h
  .rename_i r' cm _ _ hc;split at h;.rename_i v hi;cases h;have hm:=hn.mem;rw[zk hm,hl];simp[hc,hi];rw[mU (m:=s.mem) (m':=s'.mem) λlv sl hk=>hm lv sl ?_];obtain⟨p,hp,he⟩:=im.1 hk;exact he▸zm hl p hp
   grind
theorem wh{m m':List (Tr bH)}:∀{l:List AV},cO m m' (l.flatMap dD)->pM m' l=pM m l|[],_=>rfl|x::r,h=>by simp[pM];rw[ot λlv sl hk=>h lv sl (by simp[hk]),wh λlv sl hk=>h lv sl (by simp only[d7,bj];exact .inr hk)]
theorem Iy{m m':List (Tr bH)}{x:AV}(h:cO m m' (eO x)):rQ m' x=rQ m x:=by cases x with|agg cs=>simp[rQ];rw[wh h]|_=>simp only[rQ];rw[ot h]
theorem wj{m m':List (Tr bH)}:∀{l:List AV},cO m m' (l.flatMap eO)->qH m' l=qH m l|[],_=>rfl|x::r,h=>by simp[qH];rw[Iy λlv sl hk=>h lv sl (by simp[hk]),wj λlv sl hk=>h lv sl (by simp only[d7,bj];exact .inr hk)]
theorem Gt{f:Nat}{args:List AV}{r:gT}(h:od call s aT f args=some r)(hn:Av s s' r):od call s' aT f args=some r:=by
 unfold od at h⊢;split at h;.cases h
 .rename_i aO hl;split at h;.cases h
  .split at h;.cases h;have hm:=hn.mem;rw[wj hm,hl]<;>grind
   grind
theorem OP{op:ct}{r:gT}(h:op.run call sh s row d aT=some r)(hs:∀x∈op.jf,x.ev s'.slots=x.ev s.slots)(hn:Av s s' r):op.run call sh s' row d aT=some r:=by cases op with
 |alloc z=>simp only[ct.run]at h⊢;injection h with h;subst h;rw[hn.1 mV]|box x=>
  simp only[ct.jf,dk,dC,jp,lh]at hs;simp only[ct.run,hs]at h⊢;split at h;.obtain⟨cs,hcs,rfl⟩:=aQ h;rw[hcs,hn.1 mV];rfl
  obtain⟨cs,hcs,rfl⟩:=aQ h;rw[hcs,hn.1 mV];rfl|makeSlice sz b z x y=>
  simp only[ct.jf,dk,dC,jp,iv,lh]at hs;simp only[ct.run,hs.1,hs.2]at h⊢;split at h
  .split at h;.rename_i hc;injection h with h;subst h;rw[bb hc,hn.1 mV]
   .cases h
  .cases h|build z ps=>simp only[ct.run]at h⊢;rw[sE hs];exact h|buildSlice sz n z ps=>simp only[ct.run]at h⊢;cases pP:Nat.beq row 2with
  |true=>
   rw[pP]at h;simp only at h⊢;split at h;.cases h
   .cases hf:p5 s.slots ((List.replicate n z).flatten.map .d) (ps.map λp=>(p.1*sz,sz,p.2))with|none=>rw[hf]at h;cases h|some cs=>rw[hf]at h;simp only[ca,eI]at h;subst h;rw[sE (s:=s) (λx hx=>hs x (by simp only[po]at hx;exact hx)),hf,hn.1 mV];rfl
  |false=>
  rw[pP]at h;simp only at h⊢;rw[zh hs];split at h;.cases h
  .rename_i els ks hf;split at h;.injection h with h;subst h;rw[uY hf hn.mem];simp only[mU (m:=s.mem) hn.mem]
   .split at h;.cases h
    .rename_i hk;injection h with h;subst h;rw[uY hf hn.mem];simp only[mU (m:=s.mem) hn.mem];rw[hn.1 ON,be hk]
 |load sz agg x=>simp only[ct.jf,dk,dC,jp,lh]at hs;simp only[ct.run,hs]at h⊢;obtain⟨cs,hcs,h⟩:=aV h;obtain⟨v,hv,rfl⟩:=aQ h;rw[Iw (m:=s.mem) hn.mem,hcs];simp only[ae,hv,ca]|store sz x y=>simp only[ct.jf,dk,dC,jp,iv,lh]at hs;simp only[ct.run,hs.1,hs.2]at h⊢;obtain⟨e,he,rfl⟩:=aQ h;rw[Gq he hn.mem];rfl|append sz b x y=>simp only[ct.jf,dk,dC,jp,iv,lh]at hs;simp only[ct.run,hs.1,hs.2]at h⊢;obtain⟨e,he,rfl⟩:=aQ h;rw[K1 (t':=s.mem.length-1),pQ he (λhl=>by rw[hn.1 hl]) hn.2];rfl|mkSet=>simp only[ct.run]at h⊢;injection h with h;subst h;rw[hn.1 mV]|Zr x=>simp only[ct.jf,dk,dC,jp,lh]at hs;simp only[ct.run,hs]at h⊢;obtain⟨els,hel,h⟩:=aV h;obtain⟨l,hl,rfl⟩:=aQ h;rw[jk (m:=s.mem) hn.mem,hel];simp only[ae,hl,ca]|HU x y=>
  simp only[ct.jf,dk,dC,jp,iv,lh]at hs;simp only[ct.run,hs.1,hs.2]at h⊢;split at h;.rename_i lv sl au b h1 h2;obtain⟨ks,hk,rfl⟩:=aQ h;rw[ze (hn.mem _ _ (cb ..)),hk];rfl
  .cases h|HV x y=>
  simp only[ct.jf,dk,dC,jp,iv,lh]at hs;simp only[ct.run,hs.1,hs.2]at h⊢;split at h;.rename_i lv sl au b h1 h2;obtain⟨ks,hk,rfl⟩:=aQ h;rw[ze (hn.mem _ _ (cb ..)),hk];rfl
  .cases h|oP sz b z x n=>
  simp only[ct.jf,dk,dC,jp,iv,lh]at hs;simp only[ct.run,hs.1,hs.2]at h⊢;obtain⟨k,hk,h⟩:=aV h;simp only[hk,ae];split at h;.rename_i hc;rw[bb hc];obtain⟨e,he,rfl⟩:=aQ h;rw[pQ he (λhl=>by rw[hn.1 hl]) hn.2];rfl
  .cases h|HS x=>
  simp only[ct.jf,dk,dC,jp,lh]at hs;simp only[ct.run,hs]at h⊢;split at h
  .obtain⟨E,hE,rfl⟩:=aQ h;unfold HY at hE⊢;split at hE
   .rename_i cM cZ au off len sz he;split at hE
    .rename_i els hr;split at hE;.rename_i hb;injection hE with hE;subst hE;rw[mT (hn.mem _ _ (cb ..)),hr];simp only[hb];rw[hn.1 mV];rfl
     .cases hE
    .cases hE
   .cases hE
  .injection h with h;subst h;rw[Lc λhl=>by rw[hn.1 hl]]|compact x=>simp only[ct.jf,dk,dC,jp,lh]at hs;simp only[ct.run,hs]at h⊢;obtain⟨e,he,rfl⟩:=aQ h;rw[BF he hn.2];rfl|sort x=>simp only[ct.jf,dk,dC,jp,lh]at hs;simp only[ct.run,hs]at h⊢;obtain⟨e,he,rfl⟩:=aQ h;rw[Ix he hn.2];rfl|clone sz b x=>
  simp only[ct.jf,dk,dC,jp,lh]at hs;simp only[ct.run,hs]at h⊢;split at h
  .rename_i els hq;obtain⟨e,he,rfl⟩:=aQ h;rw[pQ he (λhl=>by rw[hn.1 hl]) hn.2];have:∃els,dG s'.mem (x.ev s.slots)=some els:=by
    refine⟨els,?_⟩;rw[jk (m:=s.mem) λlv sl hk=>hn.mem lv sl ?_,hq];unfold dP at he;split at he;.cases he
    .split at he
     .simp only at he;split at he
      .split at he;.injection he with he;subst he;exact hk
       .split at he;.cases he
        .injection he with he;subst he;exact hk
      .cases he
     .cases he
   obtain⟨els',h'⟩:=this;rw[h'];rfl
  .cases h|copy sz x y=>
  simp only[ct.jf,dk,dC,jp,iv,lh]at hs;simp only[ct.run,hs.1,hs.2]at h⊢;split at h
  .rename_i lv sl au off n sz' news hx hy;split at h
   .rename_i cs hb;split at h;.rename_i hc;injection h with h;subst h;have hm:=hn.mem;rw[jN (m:=s.mem) λlv sl hk=>hm lv sl (dl _ hk),hy,hx];simp only;rw[zd (hm _ _ (cb ..)),hb];simp only;rw[bb hc]
    .cases h
   .cases h
  .rename_i lv sl au off n sz' news hx hy;split at h
   .rename_i cs hb;split at h;.rename_i hc;injection h with h;subst h;have hm:=hn.mem;rw[jN (m:=s.mem) λlv sl hk=>hm lv sl (dl _ hk),hy,hx];simp only;rw[mT (hm _ _ (cb ..)),hb];simp only;rw[bb hc]
    .cases h
   .cases h
  .cases h|clear sz z x=>
  simp only[ct.jf,dk,dC,jp,lh]at hs;simp only[ct.run,hs]at h⊢;split at h
  .split at h
   .rename_i els hr;split at h;.rename_i hc;injection h with h;subst h;rw[mT (hn.mem _ _ (cb ..)),hr];simp only;rw[bb hc]
    .cases h
   .cases h
  .cases h|call f args=>simp only[ct.run]at h⊢;rw[tX (l:=args) hs];cases h7:Nat.beq row 7with|true=>rw[h7]at h;exact wg h hn|false=>cases h8:Nat.beq row 8with|true=>rw[h7,h8]at h;exact Gr h hn|false=>cases h9:Nat.beq row 9with|true=>rw[h7,h8,h9]at h;exact Gs h hn|false=>cases WZ:Nat.beq row 10with|true=>rw[h7,h8,h9,WZ]at h;exact Gt h hn|false=>rw[h7,h8,h9,WZ]at h;exact qS h hn
 |vF f args=>simp only[ct.run]at h⊢;rw[tX (l:=args) hs];cases ZD:sh f with|true=>rw[ZD]at h;exact qS h hn|false=>rw[ZD]at h;exact wg h hn
 |yS x args=>
  simp only[ct.jf,dk,iv]at hs;simp only[ct.run,hs.1]at h⊢;split at h;.rw[tX hs.2];exact qS h hn
  .cases h|makeFunc f args=>simp only[ct.run]at h⊢;rw[tX (l:=args) hs];exact h|slice sz x a b c=>
  simp only[ct.jf,dk,bj,iv]at hs;simp only[ct.run,hs.1]at h⊢;rw[kP λy hy=>hs.2 y (.inl (.inl hy)),kP λy hy=>hs.2 y (.inl (.inr hy)),kP λy hy=>hs.2 y (.inr hy)];split at h
  .split at h;.obtain⟨e,he,rfl⟩:=aQ h;rw[Ld he hn.2];rfl
   .exact h
  .cases h|qG x a b=>
  simp only[ct.jf,dk,bj,iv]at hs;simp only[ct.run,hs.1]at h⊢;split at h;.rw[kP λy hy=>hs.2 y (.inl hy),kP λy hy=>hs.2 y (.inr hy)];exact h
  .cases h|DN n=>exact h|bad=>exact h|pick a b c=>simp only[ct.jf,dk,dC,jp,iv,lh]at hs;simp only[ct.run,hs.1,hs.2.1,hs.2.2]at h⊢;exact h|nilCheck x|yR _ x|un _ x|conv _ x|field _ _ _ x|fieldAddr _ x|extract x _|len x|FO x|HT x|Zs x|sliceB _ _ x|r9 _ _ _ x=>simp only[ct.jf,dk,dC,jp,lh]at hs;simp only[ct.run,hs]at h⊢;exact h|bin _ x y|W6 _ x y|W7 _ _ _ x y|indexAddr _ x y|kJ _ _ x y|qE _ _ _ x y|qF x y|FP x y|FQ x y|grow _ x y=>simp only[ct.jf,dk,dC,jp,iv,lh]at hs;simp only[ct.run,hs.1,hs.2]at h⊢;exact h
end
end Go.bM
