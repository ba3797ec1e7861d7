/- What an operation depends on. -/
import Derived.Test.YthphehfgekjooaaGreatDoorEngU
set_option linter.unusedVariables false
set_option linter.unusedSimpArgs false
namespace Go.bq
open Go
def jF (s:St) (k:Nat×Nat×Nat):Option aZ×Option Unit:=
 if k.1=0 then (aC s.mem k.2.1 k.2.2,none) else if k.1=1∧k.2.2=0 then (none,s.aB.get? k.2.1) else (none,none)
theorem EJ {s s':St} {lv sl:Nat} (h:jF s' (bw lv sl)=jF s (bw lv sl)):aC s'.mem lv sl=aC s.mem lv sl:=by
 simpa[jF,bw] using h
theorem Uo {s s':St} {v:Nat} (h:jF s' (jw v)=jF s (jw v)):s'.aB.get? v=s.aB.get? v:=by
 simpa[jF,jw] using h
def bU (m m':List (Tr aZ)) (ks:List (Nat×Nat×Nat)):Prop:=∀ lv sl,bw lv sl∈ks→aC m' lv sl=aC m lv sl
section
variable {m m':List (Tr aZ)}
theorem lF {lv sl aa:Nat} (h:aC m' lv sl=aC m lv sl):rowAt m' lv sl aa=rowAt m lv sl aa:=by
 unfold rowAt;rw[h]
theorem lG {ks:List (Nat×Nat)} (h:bU m m' (gO ks)):di m' ks=di m ks:=
 List.map_congr_left fun k hk=>by rw[h k.1 k.2 (List.mem_map.2 ⟨k,hk,rfl⟩)]
theorem xw {lv sl aa:Nat} (h:aC m' lv sl=aC m lv sl):fK m' lv sl aa=fK m lv sl aa:=by
 unfold fK;rw[h]
theorem xx {lv sl aa:Nat} (h:aC m' lv sl=aC m lv sl):setAt m' lv sl aa=setAt m lv sl aa:=by
 unfold setAt;rw[h]
theorem JY {row t t' d:Nat} : (tn row t d).2=(tn row t' d).2:=by
 grind[tn]
theorem gR {x:AV} (h:bU m m' (cF x)):cH m' x=cH m x:=by
 cases x with
 |ref lv sl aa off n sz=>simp[cH];grind[cF,bU,qj]
 |d x=>cases x<;>rfl
 |_=>rfl
theorem iC {x:AV} (h:bU m m' (cF x)):fq m' x=fq m x:=by
 unfold fq
 split
 ·rfl
 ·exact gR h
theorem NC {x:AV} (h:bU m m' (cF x)):yB m' x=yB m x:=by
 cases x with
 |ref lv sl aa off n sz=>simp[yB];rw[gR h]
 |own els o=>cases o<;>rfl
 |_=>rfl
theorem Qp {x:AV} {y:D} {ks:List (Nat×Nat)} (h:yB m x=some (y,ks)) (hs:bU m m' (gO ks)):yB m' x=some (y,ks):=by
 cases x with
 | ref lv sl aa off n sz =>
  simp only[yB] at h ⊢
  cases he:cH m (.ref lv sl aa off n sz) with
  |none=>grind
  |some els=>
   rw[he] at h
   cases h
   rw[gR (m:=m) (fun bV cS hk=>hs bV cS (by simpa[cF,gO] using hk)),he]
   rfl
 |own els o=>cases o<;>exact h
 |_=>exact h
theorem wq:∀ {l:List AV} {ys:List D} {ks:List (Nat×Nat)},Cg m l=some (ys,ks)→bU m m' (gO ks)→Cg m' l=some (ys,ks)
 |[],_,_,h,_=>h
 | x :: r, ys, ks, h, hs => by
  simp[Cg] at h ⊢
  split at h
  ·rename_i y k ys' ks' h1 h2
   cases h
   rw[Qp h1 fun lv sl hk=>hs lv sl (by simp only[gO,List.map_append,List.mem_append] at hk ⊢;exact .inl hk),
    wq h2 fun lv sl hk=>hs lv sl (by simp only[gO,List.map_append,List.mem_append] at hk ⊢;exact .inr hk)]
  grind
theorem JZ {x:AV} {ys:List D} {ks:List (Nat×Nat)} (h:CB m x=some (ys,ks)) (hs:bU m m' (gO ks)):CB m' x=some (ys,ks):=by
 unfold CB at h ⊢
 cases hc:cellsOf x with
 |none=>grind
 |some cs=>rw[hc] at h;exact wq h hs
theorem tG {s:Tr AV} {sz:Nat} : ∀ {ps:List (Nat×bA)} {els els':List (List D)} {ks:List (Nat×Nat)},n9 m s sz els ps=some (els',ks)→bU m m' (gO ks)→n9 m' s sz els ps=some (els',ks)
 |[],_,_,_,h,_=>h
 | (i, x) :: r, els, els', ks, h, hs => by
  simp[n9] at h ⊢
  split at h
  ·rename_i e ks1 he
   split at h
   ·rename_i hc
    split at h
    ·rename_i wg ks2 hf
     cases h
     rw[JZ he fun lv sl hk=>hs lv sl (by simp[gO,List.map_append,List.mem_append] at hk ⊢;exact .inl hk)]
     simp[hc,and_self,if_true]
     rw[tG hf fun lv sl hk=>hs lv sl (by simp[gO,List.map_append,List.mem_append] at hk ⊢;exact .inr hk)]
    grind
   grind
  grind
theorem G2 {sz:Nat} {x:AV} (h:bU m m' (cF x)):ql m' sz x=ql m sz x:=by
 cases x with
 |ptr lv sl aa i off=>grind[cF,bU,ql]
 |_=>rfl
theorem EK {sz:Nat} {p v:AV} {e:eU} (h:pg m sz p v=some e) (hs:bU m m' e.rd):pg m' sz p v=some e:=by
 unfold pg at h ⊢
 split at h
 ·rename_i lv sl aa i off new hc
  have key:bw lv sl∈e.rd→aC m' lv sl=aC m lv sl:=fun hk=>hs lv sl hk
  split at h
  ·split at h
   ·grind
   ·rename_i v' els hg
    split at h
    ·rename_i h1
     split at h
     ·rename_i e' ds ks hi hd
      split at h
      ·cases h
       rw[wq hd fun lv sl hk=>hs lv sl (List.mem_cons_of_mem _ hk)]
       have hfr:di m' ks=di m ks:=lG (m:=m) fun lv sl hk=>hs lv sl (List.mem_cons_of_mem _ hk)<;>grind
      grind
     grind
    grind
   ·cases h
   ·cases h
   grind
  grind
 omega
theorem mR {x:AV} (h:bU m m' (cF x)):cy m' x=cy m x:=by
 cases x with
 |ref lv sl aa off n sz=>simp[cy];rw[gR h]
 |own els o=>cases o<;>rfl
 |fB f c=>cases c<;>rfl
 |_=>rfl
theorem qV {x:AV} (h:bU m m' (cF x)):dJ m' x=dJ m x:=by
 unfold dJ
 split
 ·rfl
 ·rfl
 ·rw[NC h]
theorem lX:∀ {l:List AV},bU m m' (l.flatMap cF)→eB m' l=eB m l
 |[],_=>rfl
 |x :: r,h=>by
  simp[eB]
  rw[qV fun lv sl hk=>h lv sl (by simp[hk]),lX fun lv sl hk=>h lv sl (by simp only[List.flatMap_cons,List.mem_append];exact .inr hk)]
theorem J0 {x:AV} (h:bU m m' (dA x)):vU m' x=vU m x:=by
 cases x with
 |agg cs=>simp[vU];rw[lX h]
 |_=>simp only[vU];rw[mR h]
theorem xz:∀ {l:List AV},bU m m' (l.flatMap dA)→n7 m' l=n7 m l
 |[],_=>rfl
 |x :: r,h=>by
  simp[n7]
  rw[J0 fun lv sl hk=>h lv sl (by simp[hk]),xz fun lv sl hk=>h lv sl (by simp only[List.flatMap_cons,List.mem_append];exact .inr hk)]
end
section
variable {m:List (Tr aZ)}
theorem ND {x:AV} {y:D} {ks:List (Nat×Nat)} (h:yB m x=some (y,ks)):∀ p∈ks,bw p.1 p.2∈cF x:=by
 cases x with
 |ref lv sl aa off n sz=>
  obtain⟨els,_,h⟩:=aG h<;>grind[yB,bw,cF]
 |d x=>cases h;simp
 |own els o=>cases o<;>simp only[yB] at h<;>first|(injection h with h;injection h with _ h2;subst h2;simp)|cases h
 |_=>cases h
theorem qW {x y:AV} {ks:List (Nat×Nat)} (h:dJ m x=some (y,ks)):∀ p∈ks,bw p.1 p.2∈cF x:=by
 unfold dJ at h
 split at h
 ·grind
 ·grind
 ·obtain ⟨⟨z, k⟩, h1, h⟩ := aG h
  cases h
  exact ND h1
theorem lY:∀ {xs ys:List AV} {ks:List (Nat×Nat)},eB m xs=some (ys,ks)→∀ p∈ks,bw p.1 p.2∈xs.flatMap cF
 |[],_,_,h=>by cases h;simp
 | x :: r, _, _, h => by
  simp[eB] at h
  split at h
  ·rename_i h1 h2
   cases h
   intro p hp
   rw[List.flatMap_cons,List.mem_append]
   rcases List.mem_append.1 hp with hp|hp
   ·exact .inl (qW h1 p hp)
   ·exact .inr (lY h2 p hp)
  grind
theorem J1 {x y:AV} {ks:List (Nat×Nat)} (h:vU m x=some (y,ks)):∀ p∈ks,bw p.1 p.2∈dA x:=by
 have one:(cy m x).map (fun y=>(y,([]:List (Nat×Nat))))=some (y,ks)→∀ p∈ks,bw p.1 p.2∈dA x:=by
  simp_all
 cases x with
 |agg cs=>
  obtain⟨⟨ys,k⟩,h1,h⟩:=aG h
  cases h
  exact lY h1
 |_=>exact one h
theorem xA:∀ {xs ys:List AV} {ks:List (Nat×Nat)},n7 m xs=some (ys,ks)→∀ p∈ks,bw p.1 p.2∈xs.flatMap dA
 |[],_,_,h=>by cases h;simp
 | x :: r, _, _, h => by
  simp[n7] at h
  split at h
  ·rename_i h1 h2
   cases h
   intro p hp
   rw[List.flatMap_cons,List.mem_append]
   rcases List.mem_append.1 hp with hp|hp
   ·exact .inl (J1 h1 p hp)
   ·exact .inr (xA h2 p hp)
  grind
end
def wu (s s':St):cR→Prop
 |.bC e=>(j9 (.bC e)=true→s'.mem.length=s.mem.length)∧∀ k∈e.rd,jF s' k=jF s k
 |.all ..=>s'.mem=s.mem∧s'.aB=s.aB∧s'.nv=s.nv
theorem wu.mem {s s':St} {e:eU} (h:wu s s' (.bC e)):bU s.mem s'.mem e.rd:=fun _ _ hk=>EJ (h.2 _ hk)
section
variable {call:Call} {sh:Nat→Bool} {s s':St} {row d aH:Nat}
theorem sx {l:List bA} (h:∀ x∈l,x.ev s'.slots=x.ev s.slots):GB s'.slots l=GB s.slots l:=
 List.map_congr_left h
theorem jG {x:Option bA} {n:Nat} (h:∀ y∈x.toList,y.ev s'.slots=y.ev s.slots):eG x s'.slots n=eG x s.slots n:=by
 cases x with
 |none=>rfl
 |some y=>grind[bA.ev,eG]
theorem qX:∀ {ps:List (Nat×Nat×bA)} {cs:List AV},(∀ x∈ps.map (·.2.2),x.ev s'.slots=x.ev s.slots)→n8 s'.slots cs ps=n8 s.slots cs ps
 |[],_,_=>rfl
 | (off, sz, x) :: r, cs, h => by
  simp[n8]
  rw[h x (by simp)]
  split
  ·split
   ·exact qX fun y hy=>h y (by simp only[List.map_cons,List.mem_cons];exact .inr hy)
   ·rfl
  ·rfl
theorem xB {m:List (Tr aZ)} {sz:Nat} : ∀ {ps:List (Nat×bA)} {els:List (List D)},(∀ x∈ps.map (·.2),x.ev s'.slots=x.ev s.slots)→n9 m s'.slots sz els ps=n9 m s.slots sz els ps
 |[],_,_=>rfl
 | (i, x) :: r, els, h => by
  simp[n9]
  rw[h x (by simp)]
  split
  ·split
   ·rw[xB fun y hy=>h y (by simp only[List.map_cons,List.mem_cons];exact .inr hy)]
   ·rfl
  ·rfl
theorem mS {v:AV} {u:Nat×Nat×Option aZ} {us:List (Nat×Nat×Option aZ)} {t:List (Nat×Bool)} {rd:List (Nat×Nat×Nat)} : j9 (.bC { val:=v,cv:=u :: us,bR:=t,rd:=rd })=true:=by
 cases rd<;>rfl
theorem NF {v:AV} {u:Nat×Nat×Option aZ} {us:List (Nat×Nat×Option aZ)} {t:List (Nat×Bool)} {rd:List (Nat×Nat×Nat)} : j9 (.bC { val:=v,cv:=us++[u],bR:=t,rd:=rd })=true:=by
 simp_all[j9]
theorem nV {rw:Bool} {lv bV sl sz bytes:Nat} {x y:AV} {e:eU} (h:cP s rw lv sl aH sz bytes x y=some e) (hl:j9 (.bC e)=true→bV=lv) (hk:∀ k∈e.rd,jF s' k=jF s k) :
  cP s' rw bV sl aH sz bytes x y=some e:=by
 have TK:bU s.mem s'.mem e.rd:=fun _ _ h=>EJ (hk _ h)
 unfold cP at h ⊢
 split at h
 ·cases h
 ·rename_i news hn
  split at h
  ·rename_i hall
   split at h
   ·split at h
    ·rename_i hc
     split at h
     ·cases h
      rw[iC (m:=s.mem) TK,hn]<;>grind
     ·split at h
      ·cases h
      ·rename_i hne
       cases h
       rw[iC (m:=s.mem) TK,hn]
       simp only[hall,if_true]
       rw[if_pos hc,if_neg hne,hl mS]
    grind
   ·split at h
    ·rename_i hc
     cases h
     rw[iC (m:=s.mem) fun lv sl hk=>TK lv sl (List.mem_cons_of_mem _ hk),hn]
     simp only[hall,if_true]
     rw[if_pos (by rw[Uo (hk _ (List.mem_cons_self ..))];exact hc)]
    grind
   ·split at h
    ·rename_i els hr
     split at h
     ·cases h
      rw[iC (m:=s.mem) fun lv sl hk=>TK lv sl (List.mem_cons_of_mem _ hk)]
      rw[lF (TK _ _ (List.mem_cons_self ..)),hr]<;>grind
     grind
    grind
   grind
  grind
theorem Ac {x:AV} {e:eU} (h:lB s aH x=some e) (hk:∀ k∈e.rd,jF s' k=jF s k):lB s' aH x=some e:=by
 unfold lB at h ⊢
 split at h
 ·exact h
 ·split at h
  ·obtain ⟨zs, hz, h⟩ := aJ h
   split at h
   ·cases h<;>simp_all[jF,bw,gG,gH,qG,rowAt]
   grind
  grind
 omega
theorem J2 {row lv bV d:Nat} {x:AV} (hl:j9 (.bC (yD row lv d aH x))=true→bV=lv):yD row bV d aH x=yD row lv d aH x:=by
 unfold yD at hl ⊢<;>grind[j9,yD]
theorem He {x:AV} {e:eU} (h:xg s x=some e) (hk:∀ k∈e.rd,jF s' k=jF s k):xg s' x=some e:=by
 unfold xg at h ⊢
 split at h
 ·exact h
 ·split at h
  ·rename_i els hr
   obtain⟨zs,hz,h⟩:=aJ h
   split at h
   ·cases h
    rw[lF (m:=s.mem) (EJ (hk _ (List.mem_cons_self ..))),hr]<;>omega
   grind
  grind
 omega
theorem J3 {sz l:Nat} {hi:Option Nat} {x:AV} {e:eU} (h:GC s aH sz x l hi=some e) (hk:∀ k∈e.rd,jF s' k=jF s k):GC s' aH sz x l hi=some e:=by
 unfold GC at h ⊢
 split at h
 ·split at h
  ·split at h
   ·cases h<;>simp_all[jF,bw,rowAt]
   grind
  grind
 omega
section
variable {cm:List (Tr aZ)} {top pk lv bV sl aa:Nat}
theorem sX {k:Nat} {x y:AV} (h:aW cm top pk k lv sl aa x=some (y,[])):aW cm top pk k bV sl aa x=some (y,[]):=by
 cases x with
 |ref a b c off len sz=>
  simp[aW] at h ⊢
  split at h
  ·exact h
  ·split at h<;>grind
 | own els o =>
  cases o with
  |full=>
   simp[aW] at h ⊢<;>grind
  |bR v tz=>exact h
  |_=>exact h
 |fB f c=>cases c<;>exact h
 |_=>exact h
theorem qY:∀ {l ys:List AV} {k:Nat},bZ cm top pk lv sl aa k l=some (ys,[])→bZ cm top pk bV sl aa k l=some (ys,[])
 |[],_,_,h=>h
 | x :: r, ys, k, h => by
  simp[bZ] at h ⊢
  split at h
  ·rename_i y u ys' us h1 h2
   simp at h
   obtain⟨rfl,rfl,rfl⟩:=h
   rw[sX h1,qY h2]
   rfl
  grind
theorem Ad {k:Nat} {x y:AV} (h:kj cm top pk lv sl aa k x=some (y,[])):kj cm top pk bV sl aa k x=some (y,[]):=by
 cases x with
 | agg cs =>
  simp only[kj] at h ⊢
  cases hc:bZ cm top pk lv sl aa k cs with
  |none=>grind
  |some p=>
   obtain⟨a,b⟩:=p
   rw[hc] at h
   cases h
   rw[qY hc]
   rfl
 |_=>simp only[kj] at h ⊢;exact sX h
theorem uL:∀ {l ys:List AV} {k:Nat},eX cm top pk lv sl aa k l=some (ys,[])→eX cm top pk bV sl aa k l=some (ys,[])
 |[],_,_,h=>h
 | x :: r, ys, k, h => by
  simp[eX] at h ⊢
  split at h
  ·rename_i y u ys' us h1 h2
   simp at h
   obtain⟨rfl,rfl,rfl⟩:=h
   rw[Ad h1,uL h2]
   rfl
  grind
theorem J4 {x y:AV} (h:fF cm top pk lv sl aa x=some (y,[])):fF cm top pk bV sl aa x=some (y,[]):=by
 cases x with
 | gN cs =>
  simp only[fF] at h ⊢
  cases hc:eX cm top pk lv sl aa 1 cs with
  |none=>grind
  |some p=>
   obtain⟨a,b⟩:=p
   rw[hc] at h
   cases h
   rw[uL hc]
   rfl
 |_=>simp only[fF] at h ⊢;exact Ad h
end
section
variable {m m':List (Tr aZ)}
theorem xC {x:AV} (h:bU m m' (cF x)):gw m' x=gw m x:=by
 cases x with
 |ref lv sl aa off n sz=>simp[gw];rw[gR h]
 |_=>rfl
theorem pK:∀ {l:List AV},bU m m' (l.flatMap cF)→gP m' l=gP m l
 |[],_=>rfl
 |x :: r,h=>by
  simp[gP]
  rw[xC fun lv sl hk=>h lv sl (by simp[hk]),pK fun lv sl hk=>h lv sl (by simp only[List.flatMap_cons,List.mem_append];exact .inr hk)]
theorem J5 {x:AV} (h:bU m m' (o9 m x)):j8 m' x=j8 m x∧o9 m' x=o9 m x:=by
 cases x with
 |agg cs=>exact⟨by simp only[j8];rw[pK h],rfl⟩
 |fB f c=>cases c<;>exact⟨rfl,rfl⟩
 | eA lv sl aa off n sz =>
  have hb:=xw (aa:=aa) (h lv sl (by simp[o9]))
  refine⟨?_,by simp only[o9,hb]⟩
  simp[j8,hb]
  cases hq:fK m lv sl aa with
  |none=>rfl
  | some cs =>
   simp
   rw[pK fun bV cS hk=>h bV cS (by
    simp only[o9,hq,List.mem_cons]
    obtain⟨a,ha,hk⟩:=List.mem_flatMap.1 hk
    exact .inr (List.mem_flatMap.2 ⟨a,List.mem_of_mem_drop (List.mem_of_mem_take ha),hk⟩))]
 |ref lv sl aa off n sz=>exact⟨by simp only[j8];rw[xC h],rfl⟩
 |_=>exact⟨rfl,rfl⟩
theorem xD:∀ {l:List AV},bU m m' (l.flatMap (o9 m))→ur m' l=ur m l∧l.flatMap (o9 m')=l.flatMap (o9 m)
 |[],_=>⟨rfl,rfl⟩
 |x :: r,h=>by
  obtain⟨h1,h2⟩:=J5 (x:=x) fun lv sl hk=>h lv sl (by simp[hk])
  obtain⟨h3,h4⟩:=xD (l:=r) fun lv sl hk=>h lv sl (by simp only[List.flatMap_cons,List.mem_append];exact .inr hk)<;>grind[j8,bU,o9,ur]
end
theorem uM {f:Nat} {args:List AV} {r:cR} (h:jB call s f args=some r) (hn:wu s s' r):jB call s' f args=some r:=by
 unfold jB at h
 split at h
 ·cases h
 ·split at h
  ·cases h
  ·split at h
   case h_2=>cases h
   split at h
   case h_2=>cases h
   cases h
   obtain⟨h1,h2⟩:=xD (m:=s.mem) (m':=s'.mem) (l:=args) hn.mem
   unfold jB<;>grind
theorem Hf {f lb sb vb:Nat} {args:List AV} {r:cR} (h:qE call s f lb sb vb args=some r) (hn:wu s s' r):qE call s' f lb sb vb args=some r:=by
 have hr:∃ e,r=.bC e∧bw lb sb∈e.rd:=by
  unfold qE at h
  repeat' (split at h)
  all_goals first|(injection h with h;subst h;exact⟨_,rfl,List.mem_cons_self ..⟩)|cases h
 obtain⟨e,rfl,hk⟩:=hr
 have hb:fK s'.mem lb sb vb=fK s.mem lb sb vb:=by
  unfold fK
  rw[hn.mem lb sb hk]
 unfold qE at h ⊢<;>grind
theorem pL {shd : Bool} {f : Nat} {args : List AV} {r : cR} (h : eZ call shd row s (s.mem.length - 1) d aH f args = some r) (hn : wu s s' r) : eZ call shd row s' (s'.mem.length - 1) d aH f args = some r := by
 unfold eZ at h ⊢
 cases shd with
 | false =>
  cases hba:nD args with
  |some x=>
   rw[hba] at h
   exact Hf h hn
  |none=>
  rw[hba] at h
  simp at h ⊢
  split at h
  ·cases h
  ·rename_i aD ks hl
   split at h
   ·cases h
   ·rename_i r' cm _ _ hc
    split at h
    ·cases h
    ·rename_i v us hi
     split at h
     ·cases h
     ·rename_i u hu
      cases h
      have hks:bU s.mem s'.mem (gO ks):=fun lv sl hk=>hn.mem lv sl (by
       obtain⟨p,hp,he⟩:=List.mem_map.1 hk
       rw[←he]
       exact xA hl p hp)
      rw[xz (m:=s.mem) hn.mem,hl]
      simp[hc,lG hks]
      have hlen:di s.mem ks++u≠[]→s'.mem.length=s.mem.length:=fun hne=>hn.1 (by
       simp only[j9]
       cases hz:di s.mem ks++u with
       |nil=>exact absurd hz hne
       |cons a b=>simp)
      by_cases hus:us=[]
      ·subst hus
       rw[J4 hi]
       cases hu
       rfl
      ·have hlen := hlen (by
        unfold jA at hu
        split at hu
        ·exact absurd rfl hus
        ·injection hu with hu;subst hu;simp
        ·cases hu)
       grind
 | true =>
  simp at h ⊢
  split at h
  ·cases h
  ·split at h
   ·cases h
   ·split at h
    ·cases h
    ·split at h
     ·cases h
     ·cases h<;>simp_all[eY,wu,Call,aX,jA,fF]
theorem EL {f:Nat} {args:List AV} {r:cR} (h:o8 call s f args=some r) (hn:wu s s' r):o8 call s' f args=some r:=by
 unfold o8 at h ⊢
 split at h
 ·cases h
 ·split at h
  ·cases h
  ·cases h<;>simp_all[eY,wu,Call]
theorem J6 {m m':List (Tr aZ)} {x:AV} (h:bU m m' (dA x)):vW m' x=vW m x:=by
 cases x with
 |agg cs=>simp[vW];rw[lX h]
 |_=>simp only[vW];rw[qV h]
theorem xE {m m':List (Tr aZ)} : ∀ {l:List AV},bU m m' (l.flatMap dA)→qk m' l=qk m l
 |[],_=>rfl
 |x :: r,h=>by
  simp[qk]
  rw[J6 fun lv sl hk=>h lv sl (by simp[hk]),xE fun lv sl hk=>h lv sl (by simp only[List.flatMap_cons,List.mem_append];exact .inr hk)]
theorem J7 {m:List (Tr aZ)} {x y:AV} {ks:List (Nat×Nat)} (h:vW m x=some (y,ks)):∀ p∈ks,bw p.1 p.2∈dA x:=by
 cases x with
 |agg cs=>
  obtain⟨⟨ys,k⟩,h1,h⟩:=aG h
  cases h
  exact lY h1
 |_=>simp only[vW] at h;exact qW h
theorem xF {m:List (Tr aZ)} : ∀ {xs ys:List AV} {ks:List (Nat×Nat)},qk m xs=some (ys,ks)→∀ p∈ks,bw p.1 p.2∈xs.flatMap dA
 |[],_,_,h=>by cases h;simp
 | x :: r, _, _, h => by
  simp[qk] at h
  split at h
  ·rename_i h1 h2
   cases h
   intro p hp
   rw[List.flatMap_cons,List.mem_append]
   rcases List.mem_append.1 hp with hp|hp
   ·exact .inl (J7 h1 p hp)
   ·exact .inr (xF h2 p hp)
  grind
theorem EM {f:Nat} {args:List AV} {r:cR} (h:mK call s aH f args=some r) (hn:wu s s' r):mK call s' aH f args=some r:=by
 unfold mK at h ⊢
 split at h
 ·cases h
 ·rename_i aD ks hl
  split at h
  ·cases h
  ·rename_i r' cm _ _ hc
   split at h
   ·rename_i v hi
    cases h
    have hm:=hn.mem
    rw[xE hm,hl]
    simp[hc,hi]
    rw[lG (m:=s.mem) (m':=s'.mem) fun lv sl hk=>hm lv sl ?_]
    obtain⟨p,hp,he⟩:=List.mem_map.1 hk
    exact he ▸ xF hl p hp
   grind
theorem uN {m m':List (Tr aZ)} : ∀ {l:List AV},bU m m' (l.flatMap cF)→qF m' l=qF m l
 |[],_=>rfl
 |x :: r,h=>by
  simp[qF]
  rw[mR fun lv sl hk=>h lv sl (by simp[hk]),uN fun lv sl hk=>h lv sl (by simp only[List.flatMap_cons,List.mem_append];exact .inr hk)]
theorem Hg {m m':List (Tr aZ)} {x:AV} (h:bU m m' (dA x)):uq m' x=uq m x:=by
 cases x with
 |agg cs=>simp[uq];rw[uN h]
 |_=>simp only[uq];rw[mR h]
theorem uO {m m':List (Tr aZ)} : ∀ {l:List AV},bU m m' (l.flatMap dA)→tj m' l=tj m l
 |[],_=>rfl
 |x :: r,h=>by
  simp[tj]
  rw[Hg fun lv sl hk=>h lv sl (by simp[hk]),uO fun lv sl hk=>h lv sl (by simp only[List.flatMap_cons,List.mem_append];exact .inr hk)]
theorem EN {f:Nat} {args:List AV} {r:cR} (h:o7 call s aH f args=some r) (hn:wu s s' r):o7 call s' aH f args=some r:=by
 unfold o7 at h ⊢
 split at h
 ·cases h
 ·rename_i aD hl
  split at h
  ·cases h
  ·split at h
   ·cases h
    have hm:=hn.mem
    rw[uO hm,hl]<;>grind
   grind
theorem NG {op : bL} {r : cR} (h : op.run call sh s row d aH = some r) (hs : ∀ x ∈ op.iK, x.ev s'.slots = x.ev s.slots) (hn : wu s s' r) : op.run call sh s' row d aH = some r := by
 cases op with
 |alloc z=>
  simp only[bL.run] at h ⊢
  injection h with h;subst h
  rw[hn.1 mS]
 |box x=>
  simp only[bL.iK,List.mem_cons,List.not_mem_nil,or_false,forall_eq] at hs
  simp only[bL.run,hs] at h ⊢
  obtain⟨cs,hcs,rfl⟩:=aG h
  rw[hcs,hn.1 mS];rfl
 | makeSlice sz b z x y =>
  simp only[bL.iK,List.mem_cons,List.not_mem_nil,or_false,forall_eq_or_imp,forall_eq] at hs
  simp only[bL.run,hs.1,hs.2] at h ⊢
  split at h
  ·split at h
   ·rename_i hc
    injection h with h;subst h
    rw[if_pos hc,hn.1 mS]
   ·cases h
  ·cases h
 |build z ps=>
  simp only[bL.run] at h ⊢
  rw[qX hs];exact h
 | buildSlice sz n z ps =>
  simp only[bL.run] at h ⊢
  cases hr2:Nat.beq row 2 with
  | true =>
   rw[hr2] at h
   simp only at h ⊢
   split at h
   ·cases h
   ·cases hf : n8 s.slots ((List.replicate n z).flatten.map .d) (ps.map fun p => (p.1 * sz, sz, p.2)) with
    |none=>rw[hf] at h;cases h
    | some cs =>
     rw[hf] at h
     simp only[Option.map_some,Option.some.injEq] at h
     subst h
     rw[qX (s:=s) (fun x hx=>hs x (by
      simp only[List.map_map] at hx
      exact hx)),hf,hn.1 mS]
     rfl
  |false=>
  rw[hr2] at h
  simp only at h ⊢
  rw[xB hs]
  split at h
  ·cases h
  ·rename_i els ks hf
   split at h
   ·injection h with h; subst h
    rw[tG hf hn.mem]
    simp only[lG (m:=s.mem) hn.mem]
   ·split at h
    ·cases h
    ·rename_i hk
     injection h with h;subst h
     rw[tG hf hn.mem]
     simp only[lG (m:=s.mem) hn.mem]
     rw[hn.1 NF,if_neg hk]
 |load sz agg x=>
  simp only[bL.iK,List.mem_cons,List.not_mem_nil,or_false,forall_eq] at hs
  simp only[bL.run,hs] at h ⊢
  obtain⟨cs,hcs,h⟩:=aJ h
  obtain⟨v,hv,rfl⟩:=aG h
  rw[G2 (m:=s.mem) hn.mem,hcs]
  simp only[Option.bind_some,hv,Option.map_some]
 |store sz x y=>
  simp only[bL.iK,List.mem_cons,List.not_mem_nil,or_false,forall_eq_or_imp,forall_eq] at hs
  simp only[bL.run,hs.1,hs.2] at h ⊢
  obtain⟨e,he,rfl⟩:=aG h
  rw[EK he hn.mem];rfl
 |append sz b x y=>
  simp only[bL.iK,List.mem_cons,List.not_mem_nil,or_false,forall_eq_or_imp,forall_eq] at hs
  simp only[bL.run,hs.1,hs.2] at h ⊢
  obtain⟨e,he,rfl⟩:=aG h
  rw[JY (t':=s.mem.length-1),nV he (fun hl=>by rw[hn.1 hl]) hn.2];rfl
 |mkSet=>
  simp only[bL.run] at h ⊢
  injection h with h;subst h
  rw[hn.1 mS]
 |W1 x=>
  simp only[bL.iK,List.mem_cons,List.not_mem_nil,or_false,forall_eq] at hs
  simp only[bL.run,hs] at h ⊢
  obtain⟨els,hel,h⟩:=aJ h
  obtain⟨l,hl,rfl⟩:=aG h
  rw[gR (m:=s.mem) hn.mem,hel]
  simp only[Option.bind_some,hl,Option.map_some]
 | Gx x y =>
  simp only[bL.iK,List.mem_cons,List.not_mem_nil,or_false,forall_eq_or_imp,forall_eq] at hs
  simp only[bL.run,hs.1,hs.2] at h ⊢
  split at h
  ·rename_i lv sl aa b h1 h2
   obtain⟨ks,hk,rfl⟩:=aG h
   rw[xx (hn.mem _ _ (List.mem_cons_self ..)),hk]
   rfl
  ·cases h
 | Gy x y =>
  simp only[bL.iK,List.mem_cons,List.not_mem_nil,or_false,forall_eq_or_imp,forall_eq] at hs
  simp only[bL.run,hs.1,hs.2] at h ⊢
  split at h
  ·rename_i lv sl aa b h1 h2
   obtain⟨ks,hk,rfl⟩:=aG h
   rw[xx (hn.mem _ _ (List.mem_cons_self ..)),hk]
   rfl
  ·cases h
 | ny sz b z x n =>
  simp only[bL.iK,List.mem_cons,List.not_mem_nil,or_false,forall_eq_or_imp,forall_eq] at hs
  simp only[bL.run,hs.1,hs.2] at h ⊢
  obtain⟨k,hk,h⟩:=aJ h
  simp only[hk,Option.bind_some]
  split at h
  ·rename_i hc
   rw[if_pos hc]
   obtain⟨e,he,rfl⟩:=aG h
   rw[nV he (fun hl=>by rw[hn.1 hl]) hn.2];rfl
  ·cases h
 | Gv x =>
  simp only[bL.iK,List.mem_cons,List.not_mem_nil,or_false,forall_eq] at hs
  simp only[bL.run,hs] at h ⊢
  split at h
  ·obtain ⟨E, hE, rfl⟩ := aG h
   unfold GD at hE ⊢
   split at hE
   ·rename_i bV cS aa off len sz he
    split at hE
    ·rename_i els hr
     split at hE
     ·rename_i hb
      injection hE with hE;subst hE
      rw[lF (hn.mem _ _ (List.mem_cons_self ..)),hr]
      simp only[hb]
      rw[hn.1 mS]
      rfl
     ·cases hE
    ·cases hE
   ·cases hE
  ·injection h with h; subst h
   rw[J2 fun hl=>by rw[hn.1 hl]]
 |compact x=>
  simp only[bL.iK,List.mem_cons,List.not_mem_nil,or_false,forall_eq] at hs
  simp only[bL.run,hs] at h ⊢
  obtain⟨e,he,rfl⟩:=aG h
  rw[Ac he hn.2];rfl
 |sort x=>
  simp only[bL.iK,List.mem_cons,List.not_mem_nil,or_false,forall_eq] at hs
  simp only[bL.run,hs] at h ⊢
  obtain⟨e,he,rfl⟩:=aG h
  rw[He he hn.2];rfl
 | clone sz b x =>
  simp only[bL.iK,List.mem_cons,List.not_mem_nil,or_false,forall_eq] at hs
  simp only[bL.run,hs] at h ⊢
  split at h
  ·rename_i els hq
   obtain⟨e,he,rfl⟩:=aG h
   rw[nV he (fun hl=>by rw[hn.1 hl]) hn.2]
   have : ∃ els, cH s'.mem (x.ev s.slots) = some els := by
    refine⟨els,?_⟩
    rw[gR (m:=s.mem) fun lv sl hk=>hn.mem lv sl ?_,hq]
    unfold cP at he
    split at he
    ·cases he
    ·split at he
     ·simp only at he
      split at he
      ·split at he
       ·injection he with he;subst he;exact hk
       ·split at he
        ·cases he
        ·injection he with he;subst he;exact hk
      ·cases he
     ·cases he
   obtain⟨els',h'⟩:=this
   rw[h'];rfl
  ·cases h
 | copy sz x y =>
  simp only[bL.iK,List.mem_cons,List.not_mem_nil,or_false,forall_eq_or_imp,forall_eq] at hs
  simp only[bL.run,hs.1,hs.2] at h ⊢
  split at h
  ·rename_i lv sl aa off n sz' news hx hy
   split at h
   ·rename_i cs hb
    split at h
    ·rename_i hc
     injection h with h;subst h
     have hm:=hn.mem
     rw[iC (m:=s.mem) fun lv sl hk=>hm lv sl (List.mem_cons_of_mem _ hk),hy,hx]
     simp only
     rw[xw (hm _ _ (List.mem_cons_self ..)),hb]
     simp only
     rw[if_pos hc]
    ·cases h
   ·cases h
  ·rename_i lv sl aa off n sz' news hx hy
   split at h
   ·rename_i cs hb
    split at h
    ·rename_i hc
     injection h with h;subst h
     have hm:=hn.mem
     rw[iC (m:=s.mem) fun lv sl hk=>hm lv sl (List.mem_cons_of_mem _ hk),hy,hx]
     simp only
     rw[lF (hm _ _ (List.mem_cons_self ..)),hb]
     simp only
     rw[if_pos hc]
    ·cases h
   ·cases h
  ·cases h
 | clear sz z x =>
  simp only[bL.iK,List.mem_cons,List.not_mem_nil,or_false,forall_eq] at hs
  simp only[bL.run,hs] at h ⊢
  split at h
  ·split at h
   ·rename_i els hr
    split at h
    ·rename_i hc
     injection h with h;subst h
     rw[lF (hn.mem _ _ (List.mem_cons_self ..)),hr]
     simp only
     rw[if_pos hc]
    ·cases h
   ·cases h
  ·cases h
 | call f args =>
  simp only[bL.run] at h ⊢
  rw[sx (l:=args) hs]
  cases h7:Nat.beq row 7 with
  |true=>rw[h7] at h;exact uM h hn
  | false =>
   cases h8:Nat.beq row 8 with
   |true=>rw[h7,h8] at h;exact EL h hn
   | false =>
    cases h9:Nat.beq row 9 with
    |true=>rw[h7,h8,h9] at h;exact EM h hn
    |false=>
     cases h10:Nat.beq row 10 with
     |true=>rw[h7,h8,h9,h10] at h;exact EN h hn
     |false=>rw[h7,h8,h9,h10] at h;exact pL h hn
 |um f args=>
  simp only[bL.run] at h ⊢
  rw[sx (l:=args) hs]
  cases Xa:sh f with
  |true=>rw[Xa] at h;exact pL h hn
  |false=>rw[Xa] at h;exact uM h hn
 | zA x args =>
  simp only[bL.iK,List.mem_cons,forall_eq_or_imp] at hs
  simp only[bL.run,hs.1] at h ⊢
  split at h
  ·rw [sx hs.2]
   exact pL h hn
  ·cases h
 |makeFunc f args=>
  simp only[bL.run] at h ⊢
  rw[sx (l:=args) hs];exact h
 | slice sz x a b c =>
  simp only[bL.iK,List.mem_cons,List.mem_append,forall_eq_or_imp] at hs
  simp only[bL.run,hs.1] at h ⊢
  rw[jG fun y hy=>hs.2 y (.inl (.inl hy)),jG fun y hy=>hs.2 y (.inl (.inr hy)),jG fun y hy=>hs.2 y (.inr hy)]
  split at h
  ·split at h
   ·obtain ⟨e, he, rfl⟩ := aG h
    rw[J3 he hn.2];rfl
   ·exact h
  ·cases h
 | o6 x a b =>
  simp only[bL.iK,List.mem_cons,List.mem_append,forall_eq_or_imp] at hs
  simp only[bL.run,hs.1] at h ⊢
  split at h
  ·rw [jG fun y hy => hs.2 y (.inl hy), jG fun y hy => hs.2 y (.inr hy)]
   exact h
  ·cases h
 |Cf n=>exact h
 |bad=>exact h
 |pick a b c=>
  simp only[bL.iK,List.mem_cons,List.not_mem_nil,or_false,forall_eq_or_imp,forall_eq] at hs
  simp only[bL.run,hs.1,hs.2.1,hs.2.2] at h ⊢
  exact h
 |nilCheck x|xe _ x|un _ x|conv _ x|field _ _ _ x|fieldAddr _ x|extract x _|len x|Eg x|Gw x|W2 x|sliceB _ _ x|qA _ _ _ x=>
  simp only[bL.iK,List.mem_cons,List.not_mem_nil,or_false,forall_eq] at hs
  simp only[bL.run,hs] at h ⊢
  exact h
 |bin _ x y|TT _ x y|TU _ _ _ x y|indexAddr _ x y|jz _ _ x y|oY _ _ _ x y|oZ x y|Eh x y|Ei x y|grow _ x y=>
  simp only[bL.iK,List.mem_cons,List.not_mem_nil,or_false,forall_eq_or_imp,forall_eq] at hs
  simp only[bL.run,hs.1,hs.2] at h ⊢
  exact h
end
end Go.bq
