/- What an operation depends on. -/
import Derived.Test.YtokjmkblnafppaaGreatDoorEngU
set_option linter.unusedVariables false
set_option linter.unusedSimpArgs false
namespace Go.bI
open Go
def kR (s:St) (k:Nat×Nat×Nat):Option bH×Option Unit:=
 if k.1=0 then (aN s.mem k.2.1 k.2.2,none) else if k.1=1∧k.2.2=0 then (none,s.aE.get? k.2.1) else (none,none)
theorem tZ {s s':St} {lv sl:Nat} (h:kR s' (cg lv sl)=kR s (cg lv sl)):aN s'.mem lv sl=aN s.mem lv sl:=by
 simpa[kR,cg] using h
theorem Rp {s s':St} {v:Nat} (h:kR s' (jF v)=kR s (jF v)):s'.aE.get? v=s.aE.get? v:=by
 simpa[kR,jF] using h
def cJ (m m':List (Tr bH)) (ks:List (Nat×Nat×Nat)):Prop:=∀ lv sl,cg lv sl∈ks→aN m' lv sl=aN m lv sl
section
variable {m m':List (Tr bH)}
theorem ia {lv sl af:Nat} (h:aN m' lv sl=aN m lv sl):rowAt m' lv sl af=rowAt m lv sl af:=by
 unfold rowAt;rw[h]
theorem Fk {lv sl af:Nat} (h:aN m' lv sl=aN m lv sl):nj m' lv sl af=nj m lv sl af:=by
 unfold nj;rw[h]
theorem kS {ks:List (Nat×Nat)} (h:cJ m m' (gS ks)):dy m' ks=dy m ks:=
 List.map_congr_left fun k hk=>by rw[h k.1 k.2 (List.mem_map.2 ⟨k,hk,rfl⟩)]
theorem wM {lv sl af:Nat} (h:aN m' lv sl=aN m lv sl):fX m' lv sl af=fX m lv sl af:=by
 unfold fX;rw[h]
theorem wN {lv sl af:Nat} (h:aN m' lv sl=aN m lv sl):setAt m' lv sl af=setAt m lv sl af:=by
 unfold setAt;rw[h]
theorem H6 {row t t' d:Nat} : (su row t d).2=(su row t' d).2:=by
 unfold su;split<;>rfl
theorem ic {x:AV} (h:cJ m m' (cW x)):dK m' x=dK m x:=by
 cases x with
 |ref lv sl af off n sz=>simp only[dK];rw[Fk (h lv sl (by simp[cW]))]
 |d x=>cases x<;>rfl
 |_=>rfl
theorem iL {x:AV} (h:cJ m m' (cW x)):gQ m' x=gQ m x:=by
 unfold gQ
 split
 ·rfl
 ·exact ic h
theorem Lm {x:AV} (h:cJ m m' (cW x)):xM m' x=xM m x:=by
 cases x with
 |ref lv sl af off n sz=>simp only[xM];rw[ic h]
 |own els o=>cases o<;>rfl
 |_=>rfl
theorem NA {x:AV} {y:D} {ks:List (Nat×Nat)} (h:xM m x=some (y,ks)) (hs:cJ m m' (gS ks)):xM m' x=some (y,ks):=by
 cases x with
 | ref lv sl af off n sz =>
  simp only[xM] at h ⊢
  cases he:dK m (.ref lv sl af off n sz) with
  |none=>rw[he] at h;cases h
  |some els=>
   rw[he] at h
   simp only[Option.map_some,Option.some.injEq,Prod.mk.injEq] at h
   obtain⟨rfl,rfl⟩:=h
   rw[ic (m:=m) (fun cl cX hk=>hs cl cX (by simpa[cW,gS] using hk)),he]
   rfl
 |own els o=>cases o<;>exact h
 |_=>exact h
theorem vu:∀ {l:List AV} {ys:List D} {ks:List (Nat×Nat)},yU m l=some (ys,ks)→cJ m m' (gS ks)→yU m' l=some (ys,ks)
 |[],_,_,h,_=>h
 | x :: r, ys, ks, h, hs => by
  simp only[yU] at h ⊢
  split at h
  ·rename_i y k ys' ks' h1 h2
   simp only[Option.some.injEq,Prod.mk.injEq] at h
   obtain⟨rfl,rfl⟩:=h
   rw[NA h1 fun lv sl hk=>hs lv sl (by simp only[gS,List.map_append,List.mem_append] at hk ⊢;exact .inl hk),
    vu h2 fun lv sl hk=>hs lv sl (by simp only[gS,List.map_append,List.mem_append] at hk ⊢;exact .inr hk)]
  ·cases h
theorem H7 {x:AV} {ys:List D} {ks:List (Nat×Nat)} (h:BQ m x=some (ys,ks)) (hs:cJ m m' (gS ks)):BQ m' x=some (ys,ks):=by
 unfold BQ at h ⊢
 cases hc:cellsOf x with
 |none=>rw[hc] at h;cases h
 |some cs=>rw[hc] at h;exact vu h hs
theorem sK {s:Tr AV} {sz:Nat} : ∀ {ps:List (Nat×bR)} {els els':List (List D)} {ks:List (Nat×Nat)},mO m s sz els ps=some (els',ks)→cJ m m' (gS ks)→mO m' s sz els ps=some (els',ks)
 |[],_,_,_,h,_=>h
 | (i, x) :: r, els, els', ks, h, hs => by
  simp only[mO] at h ⊢
  split at h
  ·rename_i e ks1 he
   split at h
   ·rename_i hc
    split at h
    ·rename_i vo ks2 hf
     simp only[Option.some.injEq,Prod.mk.injEq] at h
     obtain⟨rfl,rfl⟩:=h
     rw[H7 he fun lv sl hk=>hs lv sl (by simp only[gS,List.map_append,List.mem_append] at hk ⊢;exact .inl hk)]
     simp only[hc,and_self,if_true]
     rw[sK hf fun lv sl hk=>hs lv sl (by simp only[gS,List.map_append,List.mem_append] at hk ⊢;exact .inr hk)]
    ·cases h
   ·cases h
  ·cases h
theorem Fl {sz:Nat} {x:AV} (h:cJ m m' (cW x)):pq m' sz x=pq m sz x:=by
 cases x with
 |ptr lv sl af i off=>simp only[pq];rw[h lv sl (by simp[cW])]
 |_=>rfl
theorem DC {sz:Nat} {p v:AV} {e:eX} (h:oh m sz p v=some e) (hs:cJ m m' e.rd):oh m' sz p v=some e:=by
 unfold oh at h ⊢
 split at h
 ·rename_i lv sl af i off new hc
  have key:cg lv sl∈e.rd→aN m' lv sl=aN m lv sl:=fun hk=>hs lv sl hk
  split at h
  ·rename_i hl
   simp only[hl,if_true]
   split at h
   ·rename_i v' cs hg
    split at h
    ·rename_i h1 h2
     split at h
     ·rename_i hb
      injection h with h;subst h
      rw[key (by simp),hg]
      simp only[h1,h2,hb,if_true]
     ·cases h
    ·cases h
   ·rename_i v' els hg
    split at h
    ·rename_i h1
     split at h
     ·rename_i e' ds ks hi hd
      split at h
      ·rename_i hb
       injection h with h;subst h
       rw[key (by simp),hg]
       simp only[h1,hi]
       rw[vu hd fun lv sl hk=>hs lv sl (List.mem_cons_of_mem _ hk)]
       have hfr:dy m' ks=dy m ks:=kS (m:=m) fun lv sl hk=>hs lv sl (List.mem_cons_of_mem _ hk)
       simp only[hfr,hb,if_true,not_false_eq_true,and_self]
      ·cases h
     ·cases h
    ·cases h
   ·cases h
   ·cases h
   ·cases h
  ·cases h
 ·cases h
theorem me {x:AV} (h:cJ m m' (cW x)):cv m' x=cv m x:=by
 cases x with
 |ref lv sl af off n sz=>simp only[cv];rw[ic h]
 |own els o=>cases o<;>rfl
 |fV f c=>cases c<;>rfl
 |_=>rfl
theorem qg {x:AV} (h:cJ m m' (cW x)):dM m' x=dM m x:=by
 unfold dM
 split
 ·rfl
 ·rfl
 ·rw[Lm h]
theorem lp:∀ {l:List AV},cJ m m' (l.flatMap cW)→dG m' l=dG m l
 |[],_=>rfl
 |x :: r,h=>by
  simp only[dG]
  rw[qg fun lv sl hk=>h lv sl (by simp[hk]),lp fun lv sl hk=>h lv sl (by simp only[List.flatMap_cons,List.mem_append];exact .inr hk)]
theorem H8 {x:AV} (h:cJ m m' (dF x)):sr m' x=sr m x:=by
 cases x with
 |agg cs=>simp only[sr];rw[lp h]
 |_=>simp only[sr];rw[me h]
theorem wO:∀ {l:List AV},cJ m m' (l.flatMap dF)→lZ m' l=lZ m l
 |[],_=>rfl
 |x :: r,h=>by
  simp only[lZ]
  rw[H8 fun lv sl hk=>h lv sl (by simp[hk]),wO fun lv sl hk=>h lv sl (by simp only[List.flatMap_cons,List.mem_append];exact .inr hk)]
end
section
variable {m:List (Tr bH)}
theorem Ln {x:AV} {y:D} {ks:List (Nat×Nat)} (h:xM m x=some (y,ks)):∀ p∈ks,cg p.1 p.2∈cW x:=by
 cases x with
 |ref lv sl af off n sz=>
  simp only[xM] at h
  obtain⟨els,_,h⟩:=aM h
  injection h with _ h2
  subst h2
  simp[cW]
 |d x=>simp only[xM] at h;injection h with h;injection h with _ h2;subst h2;simp
 |own els o=>cases o<;>simp only[xM] at h<;>first|(injection h with h;injection h with _ h2;subst h2;simp)|cases h
 |_=>cases h
theorem qh {x y:AV} {ks:List (Nat×Nat)} (h:dM m x=some (y,ks)):∀ p∈ks,cg p.1 p.2∈cW x:=by
 unfold dM at h
 split at h
 ·injection h with h;injection h with _ h2;subst h2;simp
 ·injection h with h;injection h with _ h2;subst h2;simp
 ·obtain ⟨⟨z, k⟩, h1, h⟩ := aM h
  injection h with _ h2
  subst h2
  exact Ln h1
theorem lq:∀ {xs ys:List AV} {ks:List (Nat×Nat)},dG m xs=some (ys,ks)→∀ p∈ks,cg p.1 p.2∈xs.flatMap cW
 |[],_,_,h=>by simp only[dG] at h;injection h with h;injection h with _ h2;subst h2;simp
 | x :: r, _, _, h => by
  simp only[dG] at h
  split at h
  ·rename_i h1 h2
   injection h with h;injection h with _ h3
   subst h3
   intro p hp
   rw[List.flatMap_cons,List.mem_append]
   rcases List.mem_append.1 hp with hp|hp
   ·exact .inl (qh h1 p hp)
   ·exact .inr (lq h2 p hp)
  ·cases h
theorem H9 {x y:AV} {ks:List (Nat×Nat)} (h:sr m x=some (y,ks)):∀ p∈ks,cg p.1 p.2∈dF x:=by
 have one:(cv m x).map (fun y=>(y,([]:List (Nat×Nat))))=some (y,ks)→∀ p∈ks,cg p.1 p.2∈dF x:=by
  intro h
  obtain⟨z,_,h⟩:=aM h
  injection h with _ h2
  subst h2
  simp
 cases x with
 |agg cs=>
  simp only[sr] at h
  obtain⟨⟨ys,k⟩,h1,h⟩:=aM h
  injection h with _ h2
  subst h2
  exact lq h1
 |_=>exact one h
theorem wP:∀ {xs ys:List AV} {ks:List (Nat×Nat)},lZ m xs=some (ys,ks)→∀ p∈ks,cg p.1 p.2∈xs.flatMap dF
 |[],_,_,h=>by simp only[lZ] at h;injection h with h;injection h with _ h2;subst h2;simp
 | x :: r, _, _, h => by
  simp only[lZ] at h
  split at h
  ·rename_i h1 h2
   injection h with h;injection h with _ h3
   subst h3
   intro p hp
   rw[List.flatMap_cons,List.mem_append]
   rcases List.mem_append.1 hp with hp|hp
   ·exact .inl (H9 h1 p hp)
   ·exact .inr (wP h2 p hp)
  ·cases h
end
def BA (s s':St):fW→Prop
 |.bS e=>(lN (.bS e)=true→s'.mem.length=s.mem.length)∧∀ k∈e.rd,kR s' k=kR s k
 |.all ..=>s'.mem=s.mem∧s'.aE=s.aE∧s'.nv=s.nv
theorem BA.mem {s s':St} {e:eX} (h:BA s s' (.bS e)):cJ s.mem s'.mem e.rd:=fun _ _ hk=>tZ (h.2 _ hk)
section
variable {call:Call} {sh:Nat→Bool} {s s':St} {row d aR:Nat}
theorem rq {l:List bR} (h:∀ x∈l,x.ev s'.slots=x.ev s.slots):Hw s'.slots l=Hw s.slots l:=
 List.map_congr_left h
theorem jO {x:Option bR} {n:Nat} (h:∀ y∈x.toList,y.ev s'.slots=y.ev s.slots):eR x s'.slots n=eR x s.slots n:=by
 cases x with
 |none=>rfl
 |some y=>simp only[eR];rw[h y (by simp)]
theorem qi:∀ {ps:List (Nat×Nat×bR)} {cs:List AV},(∀ x∈ps.map (·.2.2),x.ev s'.slots=x.ev s.slots)→mN s'.slots cs ps=mN s.slots cs ps
 |[],_,_=>rfl
 | (off, sz, x) :: r, cs, h => by
  simp only[mN]
  rw[h x (by simp)]
  split
  ·split
   ·exact qi fun y hy=>h y (by simp only[List.map_cons,List.mem_cons];exact .inr hy)
   ·rfl
  ·rfl
theorem wQ {m:List (Tr bH)} {sz:Nat} : ∀ {ps:List (Nat×bR)} {els:List (List D)},(∀ x∈ps.map (·.2),x.ev s'.slots=x.ev s.slots)→mO m s'.slots sz els ps=mO m s.slots sz els ps
 |[],_,_=>rfl
 | (i, x) :: r, els, h => by
  simp only[mO]
  rw[h x (by simp)]
  split
  ·split
   ·rw[wQ fun y hy=>h y (by simp only[List.map_cons,List.mem_cons];exact .inr hy)]
   ·rfl
  ·rfl
theorem kT {v:AV} {u:Nat×Nat×Option bH} {us:List (Nat×Nat×Option bH)} {t:List (Nat×Bool)} {rd:List (Nat×Nat×Nat)} : lN (.bS { val:=v,cK:=u :: us,cx:=t,rd:=rd })=true:=by
 cases rd<;>rfl
theorem Lo {v:AV} {u:Nat×Nat×Option bH} {us:List (Nat×Nat×Option bH)} {t:List (Nat×Bool)} {rd:List (Nat×Nat×Nat)} : lN (.bS { val:=v,cK:=us++[u],cx:=t,rd:=rd })=true:=by
 cases rd<;>cases us<;>rfl
theorem mZ {rw:Bool} {lv cl sl sz bytes:Nat} {x y:AV} {e:eX} (h:di s rw lv sl aR sz bytes x y=some e) (hl:lN (.bS e)=true→cl=lv) (hk:∀ k∈e.rd,kR s' k=kR s k) :
  di s' rw cl sl aR sz bytes x y=some e:=by
 have QE:cJ s.mem s'.mem e.rd:=fun _ _ h=>tZ (hk _ h)
 unfold di at h ⊢
 split at h
 ·cases h
 ·rename_i news hn
  split at h
  ·rename_i hall
   split at h
   ·split at h
    ·rename_i hc
     split at h
     ·injection h with h; subst h
      rw[iL (m:=s.mem) QE,hn]
      simp only[hall,if_true]
      rw[if_pos hc]
     ·split at h
      ·cases h
      ·rename_i hne
       injection h with h;subst h
       rw[iL (m:=s.mem) QE,hn]
       simp only[hall,if_true]
       rw[if_pos hc,if_neg hne,hl kT]
    ·cases h
   ·split at h
    ·rename_i hc
     injection h with h;subst h
     rw[iL (m:=s.mem) fun lv sl hk=>QE lv sl (List.mem_cons_of_mem _ hk),hn]
     simp only[hall,if_true]
     rw[if_pos (by rw[Rp (hk _ (List.mem_cons_self ..))];exact hc)]
    ·cases h
   ·split at h
    ·rename_i els hr
     split at h
     ·rename_i hc
      injection h with h;subst h
      rw[iL (m:=s.mem) fun lv sl hk=>QE lv sl (List.mem_cons_of_mem _ hk),hn]
      simp only[hall,if_true]
      rw[ia (QE _ _ (List.mem_cons_self ..)),hr]
      simp only[]
      rw[if_pos hc]
     ·cases h
    ·cases h
   ·cases h
  ·cases h
theorem zJ {x:AV} {e:eX} (h:kM s aR x=some e) (hk:∀ k∈e.rd,kR s' k=kR s k):kM s' aR x=some e:=by
 unfold kM at h ⊢
 split at h
 ·exact h
 ·split at h
  ·rename_i els hr
   obtain⟨zs,hz,h⟩:=aT h
   split at h
   ·rename_i hc
    injection h with h;subst h
    rw[ia (m:=s.mem) (tZ (hk _ (List.mem_cons_self ..))),hr]
    dsimp only
    rw[hz,Option.bind_some,if_pos hc]
   ·cases h
  ·cases h
 ·cases h
theorem Ia {row lv cl d:Nat} {x:AV} (hl:lN (.bS (xO row lv d aR x))=true→cl=lv):xO row cl d aR x=xO row lv d aR x:=by
 unfold xO at hl ⊢
 split
 ·rename_i hb
  simp only[hb] at hl
  rw[hl kT]
 ·rfl
theorem Fm {x:AV} {e:eX} (h:wq s x=some e) (hk:∀ k∈e.rd,kR s' k=kR s k):wq s' x=some e:=by
 unfold wq at h ⊢
 split at h
 ·exact h
 ·split at h
  ·rename_i els hr
   obtain⟨zs,hz,h⟩:=aT h
   split at h
   ·rename_i hc
    injection h with h;subst h
    rw[ia (m:=s.mem) (tZ (hk _ (List.mem_cons_self ..))),hr]
    dsimp only
    rw[hz,Option.bind_some,if_pos hc]
   ·cases h
  ·cases h
 ·cases h
theorem Ib {sz l:Nat} {hi:Option Nat} {x:AV} {e:eX} (h:EI s aR sz x l hi=some e) (hk:∀ k∈e.rd,kR s' k=kR s k):EI s' aR sz x l hi=some e:=by
 unfold EI at h ⊢
 split at h
 ·split at h
  ·rename_i els hr
   split at h
   ·rename_i hc
    injection h with h;subst h
    rw[ia (m:=s.mem) (tZ (hk _ (List.mem_cons_self ..))),hr]
    dsimp only
    rw[if_pos hc]
   ·cases h
  ·cases h
 ·cases h
section
variable {cm:List (Tr bH)} {top pk lv cl sl af:Nat}
theorem rU {k:Nat} {x y:AV} (h:bu cm top pk k lv sl af x=some (y,[])):bu cm top pk k cl sl af x=some (y,[]):=by
 cases x with
 | ref a b c off len sz =>
  simp only[bu] at h ⊢
  split at h
  ·exact h
  ·split at h
   ·cases h
   ·split at h
    ·exact h
    ·split at h
     ·split at h
      ·simp at h
      ·cases h
     ·split at h
      ·cases h
      ·rename_i hr
       exact h
 | own els o =>
  cases o with
  | full =>
   simp only[bu] at h ⊢
   cases hb:(!Nat.beq (pk / 65536) 0&&Nat.beq k (pk % 65536)) with
   |false=>rw[hb] at h;exact h
   |true=>
    rw[hb] at h
    cases els with
    |nil=>simp at h
    |cons=>exact h
  |cx v tz=>simp only[bu] at h ⊢;exact h
  |_=>exact h
 |fV f c=>cases c<;>exact h
 |_=>exact h
theorem qj:∀ {l ys:List AV} {k:Nat},cA cm top pk lv sl af k l=some (ys,[])→cA cm top pk cl sl af k l=some (ys,[])
 |[],_,_,h=>h
 | x :: r, ys, k, h => by
  simp only[cA] at h ⊢
  split at h
  ·rename_i y u ys' us h1 h2
   simp only[Option.some.injEq,Prod.mk.injEq,List.append_eq_nil_iff] at h
   obtain⟨rfl,rfl,rfl⟩:=h
   rw[rU h1,qj h2]
   rfl
  ·cases h
theorem zK {k:Nat} {x y:AV} (h:jG cm top pk lv sl af k x=some (y,[])):jG cm top pk cl sl af k x=some (y,[]):=by
 cases x with
 | agg cs =>
  simp only[jG] at h ⊢
  cases hc:cA cm top pk lv sl af k cs with
  |none=>rw[hc] at h;cases h
  |some p=>
   obtain⟨a,b⟩:=p
   rw[hc] at h
   simp only[Option.map_some,Option.some.injEq,Prod.mk.injEq] at h
   obtain⟨rfl,rfl⟩:=h
   rw[qj hc]
   rfl
 |_=>simp only[jG] at h ⊢;exact rU h
theorem ua:∀ {l ys:List AV} {k:Nat},fc cm top pk lv sl af k l=some (ys,[])→fc cm top pk cl sl af k l=some (ys,[])
 |[],_,_,h=>h
 | x :: r, ys, k, h => by
  simp only[fc] at h ⊢
  split at h
  ·rename_i y u ys' us h1 h2
   simp only[Option.some.injEq,Prod.mk.injEq,List.append_eq_nil_iff] at h
   obtain⟨rfl,rfl,rfl⟩:=h
   rw[zK h1,ua h2]
   rfl
  ·cases h
theorem Ic {x y:AV} (h:fI cm top pk lv sl af x=some (y,[])):fI cm top pk cl sl af x=some (y,[]):=by
 cases x with
 | gZ cs =>
  simp only[fI] at h ⊢
  cases hc:fc cm top pk lv sl af 1 cs with
  |none=>rw[hc] at h;cases h
  |some p=>
   obtain⟨a,b⟩:=p
   rw[hc] at h
   simp only[Option.map_some,Option.some.injEq,Prod.mk.injEq] at h
   obtain⟨rfl,rfl⟩:=h
   rw[ua hc]
   rfl
 |_=>simp only[fI] at h ⊢;exact zK h
end
section
variable {m m':List (Tr bH)}
theorem wS {x:AV} (h:cJ m m' (cW x)):fP m' x=fP m x:=by
 cases x with
 |ref lv sl af off n sz=>simp only[fP];rw[ic h]
 |_=>rfl
theorem oD:∀ {l:List AV},cJ m m' (l.flatMap cW)→gh m' l=gh m l
 |[],_=>rfl
 |x :: r,h=>by
  simp only[gh]
  rw[wS fun lv sl hk=>h lv sl (by simp[hk]),oD fun lv sl hk=>h lv sl (by simp only[List.flatMap_cons,List.mem_append];exact .inr hk)]
theorem Ie {x:AV} (h:cJ m m' (pJ m x)):jI m' x=jI m x∧pJ m' x=pJ m x:=by
 cases x with
 |agg cs=>exact⟨by simp only[jI];rw[oD h],rfl⟩
 |fV f c=>cases c<;>exact⟨rfl,rfl⟩
 | eH lv sl af off n sz =>
  have hb:=wM (af:=af) (h lv sl (by simp[pJ]))
  refine⟨?_,by simp only[pJ,hb]⟩
  simp only[jI,hb]
  cases hq:fX m lv sl af with
  |none=>rfl
  | some cs =>
   simp only
   rw[oD fun cl cX hk=>h cl cX (by
    simp only[pJ,hq,List.mem_cons]
    obtain⟨a,ha,hk⟩:=List.mem_flatMap.1 hk
    exact .inr (List.mem_flatMap.2 ⟨a,List.mem_of_mem_drop (List.mem_of_mem_take ha),hk⟩))]
 |ref lv sl af off n sz=>exact⟨by simp only[jI];rw[wS h],rfl⟩
 |_=>exact⟨rfl,rfl⟩
theorem wT:∀ {l:List AV},cJ m m' (l.flatMap (pJ m))→rR m' l=rR m l∧l.flatMap (pJ m')=l.flatMap (pJ m)
 |[],_=>⟨rfl,rfl⟩
 |x :: r,h=>by
  obtain⟨h1,h2⟩:=Ie (x:=x) fun lv sl hk=>h lv sl (by simp[hk])
  obtain⟨h3,h4⟩:=wT (l:=r) fun lv sl hk=>h lv sl (by simp only[List.flatMap_cons,List.mem_append];exact .inr hk)
  exact⟨by simp only[rR];rw[h1,h3],by simp only[List.flatMap_cons];rw[h2,h4]⟩
end
theorem uc {f:Nat} {args:List AV} {r:fW} (h:jJ call s f args=some r) (hn:BA s s' r):jJ call s' f args=some r:=by
 unfold jJ at h
 split at h
 ·cases h
 ·rename_i aK hl
  split at h
  ·cases h
  ·rename_i r' cm ts n' hc
   split at h
   case h_2=>cases h
   rename_i v hi
   split at h
   case h_2=>cases h
   rename_i hfl
   injection h with h;subst h
   obtain⟨h1,h2⟩:=wT (m:=s.mem) (m':=s'.mem) (l:=args) hn.mem
   unfold jJ
   rw[h1,hl]
   simp only[hc,hi,hfl,h2]
theorem Fo {f lb sb vb:Nat} {args:List AV} {r:fW} (h:pT call s f lb sb vb args=some r) (hn:BA s s' r):pT call s' f lb sb vb args=some r:=by
 have hr:∃ e,r=.bS e∧cg lb sb∈e.rd:=by
  unfold pT at h
  repeat' (split at h)
  all_goals first|(injection h with h;subst h;exact⟨_,rfl,List.mem_cons_self ..⟩)|cases h
 obtain⟨e,rfl,hk⟩:=hr
 have hb:fX s'.mem lb sb vb=fX s.mem lb sb vb:=by
  unfold fX
  rw[hn.mem lb sb hk]
 unfold pT at h ⊢
 rw[hb]
 exact h
theorem oE {shd : Bool} {f : Nat} {args : List AV} {r : fW} (h : fe call shd row s (s.mem.length - 1) d aR f args = some r) (hn : BA s s' r) : fe call shd row s' (s'.mem.length - 1) d aR f args = some r := by
 unfold fe at h ⊢
 cases shd with
 | false =>
  simp only at h ⊢
  cases hba:mM args with
  |some x=>
   obtain⟨lb,sb,vb,rest⟩:=x
   rw[hba] at h
   exact Fo h hn
  |none=>
  rw[hba] at h
  simp only at h ⊢
  split at h
  ·cases h
  ·rename_i aK ks hl
   split at h
   ·cases h
   ·rename_i r' cm _ _ hc
    split at h
    ·cases h
    ·rename_i v us hi
     split at h
     ·cases h
     ·rename_i u hu
      injection h with h;subst h
      have hks:cJ s.mem s'.mem (gS ks):=fun lv sl hk=>hn.mem lv sl (by
       obtain⟨p,hp,he⟩:=List.mem_map.1 hk
       rw[←he]
       exact wP hl p hp)
      rw[wO (m:=s.mem) hn.mem,hl]
      simp only[hc,kS hks]
      have hlen:dy s.mem ks++u≠[]→s'.mem.length=s.mem.length:=fun hne=>hn.1 (by
       simp only[lN]
       cases hz:dy s.mem ks++u with
       |nil=>exact absurd hz hne
       |cons a b=>simp)
      by_cases ZA:us=[]
      ·subst ZA
       rw[Ic hi]
       simp only[gP] at hu ⊢
       injection hu with hu;subst hu
       rfl
      ·have hlen := hlen (by
        unfold gP at hu
        split at hu
        ·exact absurd rfl ZA
        ·injection hu with hu;subst hu;simp
        ·cases hu)
       rw[hlen,hi]
       simp only[hu]
 | true =>
  simp only at h ⊢
  split at h
  ·cases h
  ·rename_i ha
   split at h
   ·cases h
   ·rename_i r' cm ts n hc
    split at h
    ·cases h
    ·rename_i v us hi
     split at h
     ·cases h
     ·rename_i u hu
      injection h with h;subst h
      obtain⟨h1,h2,h3⟩:=hn
      rw[h1,h2,h3,hc]
      simp only[hi,hu]
theorem DD {f:Nat} {args:List AV} {r:fW} (h:og call s f args=some r) (hn:BA s s' r):og call s' f args=some r:=by
 unfold og at h ⊢
 split at h
 ·cases h
 ·split at h
  ·cases h
  ·rename_i r' cm ts n hc
   injection h with h;subst h
   obtain⟨h1,h2,h3⟩:=hn
   rw[h1,h2,h3,hc]
theorem Ig {m m':List (Tr bH)} {x:AV} (h:cJ m m' (dF x)):tD m' x=tD m x:=by
 cases x with
 |agg cs=>simp only[tD];rw[lp h]
 |_=>simp only[tD];rw[qg h]
theorem wU {m m':List (Tr bH)} : ∀ {l:List AV},cJ m m' (l.flatMap dF)→nu m' l=nu m l
 |[],_=>rfl
 |x :: r,h=>by
  simp only[nu]
  rw[Ig fun lv sl hk=>h lv sl (by simp[hk]),wU fun lv sl hk=>h lv sl (by simp only[List.flatMap_cons,List.mem_append];exact .inr hk)]
theorem Ih {m:List (Tr bH)} {x y:AV} {ks:List (Nat×Nat)} (h:tD m x=some (y,ks)):∀ p∈ks,cg p.1 p.2∈dF x:=by
 cases x with
 |agg cs=>
  simp only[tD] at h
  obtain⟨⟨ys,k⟩,h1,h⟩:=aM h
  injection h with _ h2
  subst h2
  exact lq h1
 |_=>simp only[tD] at h;exact qh h
theorem wV {m:List (Tr bH)} : ∀ {xs ys:List AV} {ks:List (Nat×Nat)},nu m xs=some (ys,ks)→∀ p∈ks,cg p.1 p.2∈xs.flatMap dF
 |[],_,_,h=>by simp only[nu] at h;injection h with h;injection h with _ h2;subst h2;simp
 | x :: r, _, _, h => by
  simp only[nu] at h
  split at h
  ·rename_i h1 h2
   injection h with h;injection h with _ h3
   subst h3
   intro p hp
   rw[List.flatMap_cons,List.mem_append]
   rcases List.mem_append.1 hp with hp|hp
   ·exact .inl (Ih h1 p hp)
   ·exact .inr (wV h2 p hp)
  ·cases h
theorem DE {f:Nat} {args:List AV} {r:fW} (h:l5 call s aR f args=some r) (hn:BA s s' r):l5 call s' aR f args=some r:=by
 unfold l5 at h ⊢
 split at h
 ·cases h
 ·rename_i aK ks hl
  split at h
  ·cases h
  ·rename_i r' cm _ _ hc
   split at h
   ·rename_i v hi
    injection h with h;subst h
    have hm:=hn.mem
    rw[wU hm,hl]
    simp only[hc,hi]
    rw[kS (m:=s.mem) (m':=s'.mem) fun lv sl hk=>hm lv sl ?_]
    obtain⟨p,hp,he⟩:=List.mem_map.1 hk
    exact he ▸ wV hl p hp
   ·cases h
theorem ud {m m':List (Tr bH)} : ∀ {l:List AV},cJ m m' (l.flatMap cW)→od m' l=od m l
 |[],_=>rfl
 |x :: r,h=>by
  simp only[od]
  rw[me fun lv sl hk=>h lv sl (by simp[hk]),ud fun lv sl hk=>h lv sl (by simp only[List.flatMap_cons,List.mem_append];exact .inr hk)]
theorem Fp {m m':List (Tr bH)} {x:AV} (h:cJ m m' (dF x)):tE m' x=tE m x:=by
 cases x with
 |agg cs=>simp only[tE];rw[ud h]
 |_=>simp only[tE];rw[me h]
theorem ue {m m':List (Tr bH)} : ∀ {l:List AV},cJ m m' (l.flatMap dF)→pU m' l=pU m l
 |[],_=>rfl
 |x :: r,h=>by
  simp only[pU]
  rw[Fp fun lv sl hk=>h lv sl (by simp[hk]),ue fun lv sl hk=>h lv sl (by simp only[List.flatMap_cons,List.mem_append];exact .inr hk)]
theorem DF {f:Nat} {args:List AV} {r:fW} (h:oe call s aR f args=some r) (hn:BA s s' r):oe call s' aR f args=some r:=by
 unfold oe at h ⊢
 split at h
 ·cases h
 ·rename_i aK hl
  split at h
  ·cases h
  ·rename_i r' cm _ _ hc
   split at h
   ·rename_i v hi
    injection h with h;subst h
    have hm:=hn.mem
    rw[ue hm,hl]
    simp only[hc,hi]
   ·cases h
theorem Lp {op : bM} {r : fW} (h : op.run call sh s row d aR = some r) (hs : ∀ x ∈ op.iX, x.ev s'.slots = x.ev s.slots) (hn : BA s s' r) : op.run call sh s' row d aR = some r := by
 cases op with
 |alloc z=>
  simp only[bM.run] at h ⊢
  injection h with h;subst h
  rw[hn.1 kT]
 |box x=>
  simp only[bM.iX,List.mem_cons,List.not_mem_nil,or_false,forall_eq] at hs
  simp only[bM.run,hs] at h ⊢
  obtain⟨cs,hcs,rfl⟩:=aM h
  rw[hcs,hn.1 kT];rfl
 | makeSlice sz b z x y =>
  simp only[bM.iX,List.mem_cons,List.not_mem_nil,or_false,forall_eq_or_imp,forall_eq] at hs
  simp only[bM.run,hs.1,hs.2] at h ⊢
  split at h
  ·split at h
   ·rename_i hc
    injection h with h;subst h
    rw[if_pos hc,hn.1 kT]
   ·cases h
  ·cases h
 |build z ps=>
  simp only[bM.run] at h ⊢
  rw[qi hs];exact h
 | buildSlice sz n z ps =>
  simp only[bM.run] at h ⊢
  cases hr2:Nat.beq row 2 with
  | true =>
   rw[hr2] at h
   simp only at h ⊢
   split at h
   ·cases h
   ·cases hf : mN s.slots ((List.replicate n z).flatten.map .d) (ps.map fun p => (p.1 * sz, sz, p.2)) with
    |none=>rw[hf] at h;cases h
    | some cs =>
     rw[hf] at h
     simp only[Option.map_some,Option.some.injEq] at h
     subst h
     rw[qi (s:=s) (fun x hx=>hs x (by
      simp only[List.map_map] at hx
      exact hx)),hf,hn.1 kT]
     rfl
  |false=>
  rw[hr2] at h
  simp only at h ⊢
  rw[wQ hs]
  split at h
  ·cases h
  ·rename_i els ks hf
   split at h
   ·injection h with h; subst h
    rw[sK hf hn.mem]
    simp only[kS (m:=s.mem) hn.mem]
   ·split at h
    ·cases h
    ·rename_i hk
     injection h with h;subst h
     rw[sK hf hn.mem]
     simp only[kS (m:=s.mem) hn.mem]
     rw[hn.1 Lo,if_neg hk]
 |load sz agg x=>
  simp only[bM.iX,List.mem_cons,List.not_mem_nil,or_false,forall_eq] at hs
  simp only[bM.run,hs] at h ⊢
  obtain⟨cs,hcs,h⟩:=aT h
  obtain⟨v,hv,rfl⟩:=aM h
  rw[Fl (m:=s.mem) hn.mem,hcs]
  simp only[Option.bind_some,hv,Option.map_some]
 |store sz x y=>
  simp only[bM.iX,List.mem_cons,List.not_mem_nil,or_false,forall_eq_or_imp,forall_eq] at hs
  simp only[bM.run,hs.1,hs.2] at h ⊢
  obtain⟨e,he,rfl⟩:=aM h
  rw[DC he hn.mem];rfl
 |append sz b x y=>
  simp only[bM.iX,List.mem_cons,List.not_mem_nil,or_false,forall_eq_or_imp,forall_eq] at hs
  simp only[bM.run,hs.1,hs.2] at h ⊢
  obtain⟨e,he,rfl⟩:=aM h
  rw[H6 (t':=s.mem.length-1),mZ he (fun hl=>by rw[hn.1 hl]) hn.2];rfl
 |mkSet=>
  simp only[bM.run] at h ⊢
  injection h with h;subst h
  rw[hn.1 kT]
 |TY x=>
  simp only[bM.iX,List.mem_cons,List.not_mem_nil,or_false,forall_eq] at hs
  simp only[bM.run,hs] at h ⊢
  obtain⟨els,hel,h⟩:=aT h
  obtain⟨l,hl,rfl⟩:=aM h
  rw[ic (m:=s.mem) hn.mem,hel]
  simp only[Option.bind_some,hl,Option.map_some]
 | EF x y =>
  simp only[bM.iX,List.mem_cons,List.not_mem_nil,or_false,forall_eq_or_imp,forall_eq] at hs
  simp only[bM.run,hs.1,hs.2] at h ⊢
  split at h
  ·rename_i lv sl af b h1 h2
   obtain⟨ks,hk,rfl⟩:=aM h
   rw[wN (hn.mem _ _ (List.mem_cons_self ..)),hk]
   rfl
  ·cases h
 | EG x y =>
  simp only[bM.iX,List.mem_cons,List.not_mem_nil,or_false,forall_eq_or_imp,forall_eq] at hs
  simp only[bM.run,hs.1,hs.2] at h ⊢
  split at h
  ·rename_i lv sl af b h1 h2
   obtain⟨ks,hk,rfl⟩:=aM h
   rw[wN (hn.mem _ _ (List.mem_cons_self ..)),hk]
   rfl
  ·cases h
 | mK sz b z x n =>
  simp only[bM.iX,List.mem_cons,List.not_mem_nil,or_false,forall_eq_or_imp,forall_eq] at hs
  simp only[bM.run,hs.1,hs.2] at h ⊢
  obtain⟨k,hk,h⟩:=aT h
  simp only[hk,Option.bind_some]
  split at h
  ·rename_i hc
   rw[if_pos hc]
   obtain⟨e,he,rfl⟩:=aM h
   rw[mZ he (fun hl=>by rw[hn.1 hl]) hn.2];rfl
  ·cases h
 | ED x =>
  simp only[bM.iX,List.mem_cons,List.not_mem_nil,or_false,forall_eq] at hs
  simp only[bM.run,hs] at h ⊢
  split at h
  ·obtain ⟨E, hE, rfl⟩ := aM h
   unfold EJ at hE ⊢
   split at hE
   ·rename_i cl cX af off len sz he
    split at hE
    ·rename_i els hr
     split at hE
     ·rename_i hb
      injection hE with hE;subst hE
      rw[ia (hn.mem _ _ (List.mem_cons_self ..)),hr]
      simp only[hb]
      rw[hn.1 kT]
      rfl
     ·cases hE
    ·cases hE
   ·cases hE
  ·injection h with h; subst h
   rw[Ia fun hl=>by rw[hn.1 hl]]
 |compact x=>
  simp only[bM.iX,List.mem_cons,List.not_mem_nil,or_false,forall_eq] at hs
  simp only[bM.run,hs] at h ⊢
  obtain⟨e,he,rfl⟩:=aM h
  rw[zJ he hn.2];rfl
 |sort x=>
  simp only[bM.iX,List.mem_cons,List.not_mem_nil,or_false,forall_eq] at hs
  simp only[bM.run,hs] at h ⊢
  obtain⟨e,he,rfl⟩:=aM h
  rw[Fm he hn.2];rfl
 | clone sz b x =>
  simp only[bM.iX,List.mem_cons,List.not_mem_nil,or_false,forall_eq] at hs
  simp only[bM.run,hs] at h ⊢
  split at h
  ·rename_i els hq
   obtain⟨e,he,rfl⟩:=aM h
   rw[mZ he (fun hl=>by rw[hn.1 hl]) hn.2]
   have : ∃ els, dK s'.mem (x.ev s.slots) = some els := by
    refine⟨els,?_⟩
    rw[ic (m:=s.mem) fun lv sl hk=>hn.mem lv sl ?_,hq]
    unfold di at he
    split at he
    ·cases he
    ·split at he
     ·simp only at he
      split at he
      ·split at he
       ·injection he with he;subst he;exact hk
       ·split at he
        ·cases he
        ·injection he with he;subst he;exact hk
      ·cases he
     ·cases he
   obtain⟨els',h'⟩:=this
   rw[h'];rfl
  ·cases h
 | copy sz x y =>
  simp only[bM.iX,List.mem_cons,List.not_mem_nil,or_false,forall_eq_or_imp,forall_eq] at hs
  simp only[bM.run,hs.1,hs.2] at h ⊢
  split at h
  ·rename_i lv sl af off n sz' news hx hy
   split at h
   ·rename_i cs hb
    split at h
    ·rename_i hc
     injection h with h;subst h
     have hm:=hn.mem
     rw[iL (m:=s.mem) fun lv sl hk=>hm lv sl (List.mem_cons_of_mem _ hk),hy,hx]
     simp only
     rw[wM (hm _ _ (List.mem_cons_self ..)),hb]
     simp only
     rw[if_pos hc]
    ·cases h
   ·cases h
  ·rename_i lv sl af off n sz' news hx hy
   split at h
   ·rename_i cs hb
    split at h
    ·rename_i hc
     injection h with h;subst h
     have hm:=hn.mem
     rw[iL (m:=s.mem) fun lv sl hk=>hm lv sl (List.mem_cons_of_mem _ hk),hy,hx]
     simp only
     rw[ia (hm _ _ (List.mem_cons_self ..)),hb]
     simp only
     rw[if_pos hc]
    ·cases h
   ·cases h
  ·cases h
 | clear sz z x =>
  simp only[bM.iX,List.mem_cons,List.not_mem_nil,or_false,forall_eq] at hs
  simp only[bM.run,hs] at h ⊢
  split at h
  ·split at h
   ·rename_i els hr
    split at h
    ·rename_i hc
     injection h with h;subst h
     rw[ia (hn.mem _ _ (List.mem_cons_self ..)),hr]
     simp only
     rw[if_pos hc]
    ·cases h
   ·cases h
  ·cases h
 | call f args =>
  simp only[bM.run] at h ⊢
  rw[rq (l:=args) hs]
  cases h7:Nat.beq row 7 with
  |true=>rw[h7] at h;exact uc h hn
  | false =>
   cases h8:Nat.beq row 8 with
   |true=>rw[h7,h8] at h;exact DD h hn
   | false =>
    cases h9:Nat.beq row 9 with
    |true=>rw[h7,h8,h9] at h;exact DE h hn
    |false=>
     cases h10:Nat.beq row 10 with
     |true=>rw[h7,h8,h9,h10] at h;exact DF h hn
     |false=>rw[h7,h8,h9,h10] at h;exact oE h hn
 |tB f args=>
  simp only[bM.run] at h ⊢
  rw[rq (l:=args) hs]
  cases Ub:sh f with
  |true=>rw[Ub] at h;exact oE h hn
  |false=>rw[Ub] at h;exact uc h hn
 | yS x args =>
  simp only[bM.iX,List.mem_cons,forall_eq_or_imp] at hs
  simp only[bM.run,hs.1] at h ⊢
  split at h
  ·rw [rq hs.2]
   exact oE h hn
  ·cases h
 |makeFunc f args=>
  simp only[bM.run] at h ⊢
  rw[rq (l:=args) hs];exact h
 | slice sz x a b c =>
  simp only[bM.iX,List.mem_cons,List.mem_append,forall_eq_or_imp] at hs
  simp only[bM.run,hs.1] at h ⊢
  rw[jO fun y hy=>hs.2 y (.inl (.inl hy)),jO fun y hy=>hs.2 y (.inl (.inr hy)),jO fun y hy=>hs.2 y (.inr hy)]
  split at h
  ·split at h
   ·obtain ⟨e, he, rfl⟩ := aM h
    rw[Ib he hn.2];rfl
   ·exact h
  ·cases h
 | oa x a b =>
  simp only[bM.iX,List.mem_cons,List.mem_append,forall_eq_or_imp] at hs
  simp only[bM.run,hs.1] at h ⊢
  split at h
  ·rw [jO fun y hy => hs.2 y (.inl hy), jO fun y hy => hs.2 y (.inr hy)]
   exact h
  ·cases h
 |Bv n=>exact h
 |bad=>exact h
 |pick a b c=>
  simp only[bM.iX,List.mem_cons,List.not_mem_nil,or_false,forall_eq_or_imp,forall_eq] at hs
  simp only[bM.run,hs.1,hs.2.1,hs.2.2] at h ⊢
  exact h
 |nilCheck x|wo _ x|un _ x|conv _ x|field _ _ _ x|fieldAddr _ x|extract x _|len x|C9 x|EE x|TZ x|sliceB _ _ x|pP _ _ _ x=>
  simp only[bM.iX,List.mem_cons,List.not_mem_nil,or_false,forall_eq] at hs
  simp only[bM.run,hs] at h ⊢
  exact h
 |bin _ x y|QT _ x y|QU _ _ _ x y|indexAddr _ x y|jE _ _ x y|n8 _ _ _ x y|n9 x y|Da x y|Db x y|grow _ x y=>
  simp only[bM.iX,List.mem_cons,List.not_mem_nil,or_false,forall_eq_or_imp,forall_eq] at hs
  simp only[bM.run,hs.1,hs.2] at h ⊢
  exact h
end
end Go.bI
