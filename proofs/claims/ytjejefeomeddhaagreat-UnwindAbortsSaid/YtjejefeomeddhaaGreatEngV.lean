/- What an operation depends on. -/
import Derived.Test.YtjejefeomeddhaaGreatEngU
set_option linter.unusedVariables false
set_option linter.unusedSimpArgs false
variable [Go.Eng.Rho]
set_option linter.unusedSectionVars false
namespace Go.Eng
open Go
def keyAt (s:St) (k:Nat×Nat×Nat):Option Ent×Option Unit:=
 if k.1=0 then (memGet s.mem k.2.1 k.2.2,none) else if k.1=1∧k.2.2=0 then (none,s.tips.get? k.2.1) else (none,none)
theorem keyAt_E {s s':St} {lv sl:Nat} (h:keyAt s' (keyE lv sl)=keyAt s (keyE lv sl)):memGet s'.mem lv sl=memGet s.mem lv sl:=by
 simpa[keyAt,keyE] using h
theorem keyAt_T {s s':St} {v:Nat} (h:keyAt s' (keyT v)=keyAt s (keyT v)):s'.tips.get? v=s.tips.get? v:=by
 simpa[keyAt,keyT] using h
def SameMem (m m':List (Tr Ent)) (ks:List (Nat×Nat×Nat)):Prop:=∀ lv sl,keyE lv sl∈ks→memGet m' lv sl=memGet m lv sl
section
variable {m m':List (Tr Ent)}
theorem rowAt_local {lv sl ver:Nat} (h:memGet m' lv sl=memGet m lv sl):rowAt m' lv sl ver=rowAt m lv sl ver:=by
 unfold rowAt;rw[h]
theorem frees_local {ks:List (Nat×Nat)} (h:SameMem m m' (keysE ks)):frees m' ks=frees m ks:=
 List.map_congr_left fun k hk=>by rw[h k.1 k.2 (List.mem_map.2 ⟨k,hk,rfl⟩)]
theorem boxAt_local {lv sl ver:Nat} (h:memGet m' lv sl=memGet m lv sl):boxAt m' lv sl ver=boxAt m lv sl ver:=by
 unfold boxAt;rw[h]
theorem setAt_local {lv sl ver:Nat} (h:memGet m' lv sl=memGet m lv sl):setAt m' lv sl ver=setAt m lv sl ver:=by
 unfold setAt;rw[h]
theorem placeA_snd {row t t' d:Nat} : (placeA row t d).2=(placeA row t' d).2:=by
 grind[placeA]
theorem elsOf_local {x:AV} (h:SameMem m m' (keysOf x)):elsOf m' x=elsOf m x:=by
 cases x with
 |ref lv sl ver off n sz=>simp[elsOf];grind[keysOf,SameMem,rowRd]
 |d x=>cases x<;>rfl
 |_=>rfl
theorem newsOf_local {x:AV} (h:SameMem m m' (keysOf x)):newsOf m' x=newsOf m x:=by
 unfold newsOf
 split
 ·rfl
 ·exact elsOf_local h
theorem toD_local {x:AV} (h:SameMem m m' (keysOf x)):toD m' x=toD m x:=by
 cases x with
 |ref lv sl ver off n sz=>simp[toD];rw[elsOf_local h]
 |own els o=>cases o<;>rfl
 |_=>rfl
theorem toD_keys {x:AV} {y:D} {ks:List (Nat×Nat)} (h:toD m x=some (y,ks)) (hs:SameMem m m' (keysE ks)):toD m' x=some (y,ks):=by
 cases x with
 | ref lv sl ver off n sz =>
  simp only[toD] at h ⊢
  cases he:elsOf m (.ref lv sl ver off n sz) with
  |none=>grind
  |some els=>
   rw[he] at h
   cases h
   rw[elsOf_local (m:=m) (fun lv' sl' hk=>hs lv' sl' (by simpa[keysOf,keysE] using hk)),he]
   rfl
 |own els o=>cases o<;>exact h
 |_=>exact h
theorem toDs_keys:∀ {l:List AV} {ys:List D} {ks:List (Nat×Nat)},toDs m l=some (ys,ks)→SameMem m m' (keysE ks)→toDs m' l=some (ys,ks)
 |[],_,_,h,_=>h
 | x :: r, ys, ks, h, hs => by
  simp[toDs] at h ⊢
  split at h
  ·rename_i y k ys' ks' h1 h2
   cases h
   rw[toD_keys h1 fun lv sl hk=>hs lv sl (by simp only[keysE,List.map_append,List.mem_append] at hk ⊢;exact .inl hk),
    toDs_keys h2 fun lv sl hk=>hs lv sl (by simp only[keysE,List.map_append,List.mem_append] at hk ⊢;exact .inr hk)]
  grind
theorem elemD_keys {x:AV} {ys:List D} {ks:List (Nat×Nat)} (h:elemD m x=some (ys,ks)) (hs:SameMem m m' (keysE ks)):elemD m' x=some (ys,ks):=by
 unfold elemD at h ⊢
 cases hc:cellsOf x with
 |none=>grind
 |some cs=>rw[hc] at h;exact toDs_keys h hs
theorem fillD_keys {s:Tr AV} {sz:Nat} : ∀ {ps:List (Nat×Opd)} {els els':List (List D)} {ks:List (Nat×Nat)},fillD m s sz els ps=some (els',ks)→SameMem m m' (keysE ks)→fillD m' s sz els ps=some (els',ks)
 |[],_,_,_,h,_=>h
 | (i, x) :: r, els, els', ks, h, hs => by
  simp[fillD] at h ⊢
  split at h
  ·rename_i e ks1 he
   split at h
   ·rename_i hc
    split at h
    ·rename_i els2 ks2 hf
     cases h
     rw[elemD_keys he fun lv sl hk=>hs lv sl (by simp[keysE,List.map_append,List.mem_append] at hk ⊢;exact .inl hk)]
     simp[hc,and_self,if_true]
     rw[fillD_keys hf fun lv sl hk=>hs lv sl (by simp[keysE,List.map_append,List.mem_append] at hk ⊢;exact .inr hk)]
    grind
   grind
  grind
theorem loadA_local {sz:Nat} {x:AV} (h:SameMem m m' (keysOf x)):loadA m' sz x=loadA m sz x:=by
 cases x with
 |ptr lv sl ver i off=>grind[keysOf,SameMem,loadA]
 |_=>rfl
theorem storeA_local {sz:Nat} {p v:AV} {e:Eff} (h:storeA m sz p v=some e) (hs:SameMem m m' e.rd):storeA m' sz p v=some e:=by
 unfold storeA at h ⊢
 split at h
 ·rename_i lv sl ver i off new hc
  have key:keyE lv sl∈e.rd→memGet m' lv sl=memGet m lv sl:=fun hk=>hs lv sl hk
  split at h
  ·split at h
   ·grind
   ·rename_i v' els hg
    split at h
    ·rename_i h1
     split at h
     ·rename_i e' ds ks hi hd
      split at h
      ·cases h
       rw[toDs_keys hd fun lv sl hk=>hs lv sl (List.mem_cons_of_mem _ hk)]
       have hfr:frees m' ks=frees m ks:=frees_local (m:=m) fun lv sl hk=>hs lv sl (List.mem_cons_of_mem _ hk)<;>grind
      grind
     grind
    grind
   ·cases h
   ·cases h
   grind
  grind
 omega
theorem lendCell_local {x:AV} (h:SameMem m m' (keysOf x)):lendCell m' x=lendCell m x:=by
 cases x with
 |ref lv sl ver off n sz=>simp[lendCell];rw[elsOf_local h]
 |own els o=>cases o<;>rfl
 |clo f c=>cases c<;>rfl
 |_=>rfl
theorem giveCell_local {x:AV} (h:SameMem m m' (keysOf x)):giveCell m' x=giveCell m x:=by
 unfold giveCell
 split
 ·rfl
 ·rfl
 ·rw[toD_local h]
theorem giveCells_local:∀ {l:List AV},SameMem m m' (l.flatMap keysOf)→giveCells m' l=giveCells m l
 |[],_=>rfl
 |x :: r,h=>by
  simp[giveCells]
  rw[giveCell_local fun lv sl hk=>h lv sl (by simp[hk]),giveCells_local fun lv sl hk=>h lv sl (by simp only[List.flatMap_cons,List.mem_append];exact .inr hk)]
theorem lend_local {x:AV} (h:SameMem m m' (keysIn x)):lend m' x=lend m x:=by
 cases x with
 |agg cs=>simp[lend];rw[giveCells_local h]
 |_=>simp only[lend];rw[lendCell_local h]
theorem lends_local:∀ {l:List AV},SameMem m m' (l.flatMap keysIn)→lends m' l=lends m l
 |[],_=>rfl
 |x :: r,h=>by
  simp[lends]
  rw[lend_local fun lv sl hk=>h lv sl (by simp[hk]),lends_local fun lv sl hk=>h lv sl (by simp only[List.flatMap_cons,List.mem_append];exact .inr hk)]
end
section
variable {m:List (Tr Ent)}
theorem toD_named {x:AV} {y:D} {ks:List (Nat×Nat)} (h:toD m x=some (y,ks)):∀ p∈ks,keyE p.1 p.2∈keysOf x:=by
 cases x with
 |ref lv sl ver off n sz=>
  obtain⟨els,_,h⟩:=opt_map h<;>grind[toD,keyE,keysOf]
 |d x=>cases h;simp
 |own els o=>cases o<;>simp only[toD] at h<;>first|(injection h with h;injection h with _ h2;subst h2;simp)|cases h
 |_=>cases h
theorem giveCell_named {x y:AV} {ks:List (Nat×Nat)} (h:giveCell m x=some (y,ks)):∀ p∈ks,keyE p.1 p.2∈keysOf x:=by
 unfold giveCell at h
 split at h
 ·grind
 ·grind
 ·obtain ⟨⟨z, k⟩, h1, h⟩ := opt_map h
  cases h
  exact toD_named h1
theorem giveCells_named:∀ {xs ys:List AV} {ks:List (Nat×Nat)},giveCells m xs=some (ys,ks)→∀ p∈ks,keyE p.1 p.2∈xs.flatMap keysOf
 |[],_,_,h=>by cases h;simp
 | x :: r, _, _, h => by
  simp[giveCells] at h
  split at h
  ·rename_i h1 h2
   cases h
   intro p hp
   rw[List.flatMap_cons,List.mem_append]
   rcases List.mem_append.1 hp with hp|hp
   ·exact .inl (giveCell_named h1 p hp)
   ·exact .inr (giveCells_named h2 p hp)
  grind
theorem lend_named {x y:AV} {ks:List (Nat×Nat)} (h:lend m x=some (y,ks)):∀ p∈ks,keyE p.1 p.2∈keysIn x:=by
 have one:(lendCell m x).map (fun y=>(y,([]:List (Nat×Nat))))=some (y,ks)→∀ p∈ks,keyE p.1 p.2∈keysIn x:=by
  simp_all
 cases x with
 |agg cs=>
  obtain⟨⟨ys,k⟩,h1,h⟩:=opt_map h
  cases h
  exact giveCells_named h1
 |_=>exact one h
theorem lends_named:∀ {xs ys:List AV} {ks:List (Nat×Nat)},lends m xs=some (ys,ks)→∀ p∈ks,keyE p.1 p.2∈xs.flatMap keysIn
 |[],_,_,h=>by cases h;simp
 | x :: r, _, _, h => by
  simp[lends] at h
  split at h
  ·rename_i h1 h2
   cases h
   intro p hp
   rw[List.flatMap_cons,List.mem_append]
   rcases List.mem_append.1 hp with hp|hp
   ·exact .inl (lend_named h1 p hp)
   ·exact .inr (lends_named h2 p hp)
  grind
end
def Near (s s':St):Res→Prop
 |.eff e=>(loud (.eff e)=true→s'.mem.length=s.mem.length)∧∀ k∈e.rd,keyAt s' k=keyAt s k
 |.all _ _ _ _ kp _=>hide s'.mem kp=hide s.mem kp∧s'.tips=s.tips∧s'.nv=s.nv
theorem Near.mem {s s':St} {e:Eff} (h:Near s s' (.eff e)):SameMem s.mem s'.mem e.rd:=fun _ _ hk=>keyAt_E (h.2 _ hk)
section
variable {call:Call} {sh:Nat→Bool} {s s':St} {row d nvi:Nat}
theorem evs_local {l:List Opd} (h:∀ x∈l,x.ev s'.slots=x.ev s.slots):evs s'.slots l=evs s.slots l:=
 List.map_congr_left h
theorem boundA_local {x:Option Opd} {n:Nat} (h:∀ y∈x.toList,y.ev s'.slots=y.ev s.slots):boundA x s'.slots n=boundA x s.slots n:=by
 cases x with
 |none=>rfl
 |some y=>grind[Opd.ev,boundA]
theorem fillA_local:∀ {ps:List (Nat×Nat×Opd)} {cs:List AV},(∀ x∈ps.map (·.2.2),x.ev s'.slots=x.ev s.slots)→fillA s'.slots cs ps=fillA s.slots cs ps
 |[],_,_=>rfl
 | (off, sz, x) :: r, cs, h => by
  simp[fillA]
  rw[h x (by simp)]
  split
  ·split
   ·exact fillA_local fun y hy=>h y (by simp only[List.map_cons,List.mem_cons];exact .inr hy)
   ·rfl
  ·rfl
theorem fillD_slots {m:List (Tr Ent)} {sz:Nat} : ∀ {ps:List (Nat×Opd)} {els:List (List D)},(∀ x∈ps.map (·.2),x.ev s'.slots=x.ev s.slots)→fillD m s'.slots sz els ps=fillD m s.slots sz els ps
 |[],_,_=>rfl
 | (i, x) :: r, els, h => by
  simp[fillD]
  rw[h x (by simp)]
  split
  ·split
   ·rw[fillD_slots fun y hy=>h y (by simp only[List.map_cons,List.mem_cons];exact .inr hy)]
   ·rfl
  ·rfl
theorem loud_upd {v:AV} {u:Nat×Nat×Option Ent} {us:List (Nat×Nat×Option Ent)} {t:List (Nat×Bool)} {rd:List (Nat×Nat×Nat)} : loud (.eff { val:=v,upd:=u :: us,tip:=t,rd:=rd })=true:=by
 cases rd<;>rfl
theorem loud_upd' {v:AV} {u:Nat×Nat×Option Ent} {us:List (Nat×Nat×Option Ent)} {t:List (Nat×Bool)} {rd:List (Nat×Nat×Nat)} : loud (.eff { val:=v,upd:=us++[u],tip:=t,rd:=rd })=true:=by
 simp_all[loud]
theorem appendA_local {rw:Bool} {lv lv' sl sz bytes:Nat} {x y:AV} {e:Eff} (h:appendA s rw lv sl nvi sz bytes x y=some e) (hl:loud (.eff e)=true→lv'=lv) (hk:∀ k∈e.rd,keyAt s' k=keyAt s k) :
  appendA s' rw lv' sl nvi sz bytes x y=some e:=by
 have hsm:SameMem s.mem s'.mem e.rd:=fun _ _ h=>keyAt_E (hk _ h)
 unfold appendA at h ⊢
 split at h
 ·cases h
 ·rename_i news hn
  split at h
  ·rename_i hall
   split at h
   ·split at h
    ·rename_i hc
     split at h
     ·cases h
      rw[newsOf_local (m:=s.mem) hsm,hn]<;>grind
     ·split at h
      ·cases h
      ·rename_i hne
       cases h
       rw[newsOf_local (m:=s.mem) hsm,hn]
       simp only[hall,if_true]
       rw[if_pos hc,if_neg hne,hl loud_upd]
    grind
   ·split at h
    ·rename_i hc
     cases h
     rw[newsOf_local (m:=s.mem) fun lv sl hk=>hsm lv sl (List.mem_cons_of_mem _ hk),hn]
     simp only[hall,if_true]
     rw[if_pos (by rw[keyAt_T (hk _ (List.mem_cons_self ..))];exact hc)]
    grind
   ·split at h
    ·rename_i els hr
     split at h
     ·cases h
      rw[newsOf_local (m:=s.mem) fun lv sl hk=>hsm lv sl (List.mem_cons_of_mem _ hk)]
      rw[rowAt_local (hsm _ _ (List.mem_cons_self ..)),hr]<;>grind
     grind
    grind
   grind
  grind
theorem cellsL_local {m m':List (Tr Ent)} {sz:Nat} {y:AV} (h:SameMem m m' (keysOf y)):cellsL m' sz y=cellsL m sz y:=by
 cases y with
 |bref lv sl ver off n sz'=>
  simp only[cellsL]
  rw[boxAt_local (h _ _ (List.mem_cons_self ..))]
 |_=>
  simp only[cellsL]
  rw[elsOf_local h]
theorem appendB_local {lv lv' sl sz bytes:Nat} {x y:AV} {e:Eff} (h:appendB s lv sl nvi sz bytes x y=some e) (hl:loud (.eff e)=true→lv'=lv) (hk:∀ k∈e.rd,keyAt s' k=keyAt s k) :
  appendB s' lv' sl nvi sz bytes x y=some e:=by
 have hsm:SameMem s.mem s'.mem e.rd:=fun _ _ h=>keyAt_E (hk _ h)
 unfold appendB at h ⊢
 split at h
 ·cases h
 ·rename_i new hc
  split at h
  ·cases h
  ·rename_i hz
   split at h
   ·split at h
    ·rename_i hq
     injection h with h;subst h
     rw[cellsL_local hsm,hc]
     simp only[hz]
     rw[if_pos hq,hl loud_upd]
    ·cases h
   ·split at h
    ·rename_i cs hb
     split at h
     ·rename_i hq
      injection h with h;subst h
      rw[cellsL_local fun lv sl hk=>hsm lv sl (List.mem_cons_of_mem _ hk),hc]
      simp only[hz]
      rw[boxAt_local (hsm _ _ (List.mem_cons_self ..)),hb]
      simp only
      rw[if_pos hq]
     ·cases h
    ·cases h
   ·cases h
theorem compactA_local {x:AV} {e:Eff} (h:compactA s nvi x=some e) (hk:∀ k∈e.rd,keyAt s' k=keyAt s k):compactA s' nvi x=some e:=by
 unfold compactA at h ⊢
 split at h
 ·exact h
 ·split at h
  ·obtain ⟨zs, hz, h⟩ := opt_bind h
   split at h
   ·cases h<;>simp_all[keyAt,keyE,intsL,compI,intsOf,rowAt]
   grind
  grind
 omega
theorem movA_local {row lv lv' d:Nat} {x:AV} (hl:loud (.eff (movA row lv d nvi x))=true→lv'=lv):movA row lv' d nvi x=movA row lv d nvi x:=by
 unfold movA at hl ⊢<;>grind[loud,movA]
theorem sortA_local {x:AV} {e:Eff} (h:sortA s x=some e) (hk:∀ k∈e.rd,keyAt s' k=keyAt s k):sortA s' x=some e:=by
 unfold sortA at h ⊢
 split at h
 ·exact h
 ·split at h
  ·rename_i els hr
   obtain⟨zs,hz,h⟩:=opt_bind h
   split at h
   ·cases h
    rw[rowAt_local (m:=s.mem) (keyAt_E (hk _ (List.mem_cons_self ..))),hr]<;>omega
   grind
  grind
 omega
theorem cutA_local {sz l:Nat} {hi:Option Nat} {x:AV} {e:Eff} (h:cutA s nvi sz x l hi=some e) (hk:∀ k∈e.rd,keyAt s' k=keyAt s k):cutA s' nvi sz x l hi=some e:=by
 unfold cutA at h ⊢
 split at h
 ·split at h
  ·split at h
   ·cases h<;>simp_all[keyAt,keyE,rowAt]
   grind
  grind
 omega
section
variable {cm:List (Tr Ent)} {top pk lv lv' sl ver:Nat}
theorem impCell_noRow {k:Nat} {x y:AV} (h:impCell cm top pk k lv sl ver x=some (y,[])):impCell cm top pk k lv' sl ver x=some (y,[]):=by
 cases x with
 |ref a b c off len sz=>
  simp[impCell] at h ⊢
  split at h
  ·exact h
  ·split at h<;>grind
 | own els o =>
  cases o with
  |full=>
   simp[impCell] at h ⊢<;>grind
  |tip v tz=>exact h
  |_=>exact h
 |clo f c=>cases c<;>exact h
 |_=>exact h
theorem impCells_noRow:∀ {l ys:List AV} {k:Nat},impCells cm top pk lv sl ver k l=some (ys,[])→impCells cm top pk lv' sl ver k l=some (ys,[])
 |[],_,_,h=>h
 | x :: r, ys, k, h => by
  simp[impCells] at h ⊢
  split at h
  ·rename_i y u ys' us h1 h2
   simp at h
   obtain⟨rfl,rfl,rfl⟩:=h
   rw[impCell_noRow h1,impCells_noRow h2]
   rfl
  grind
theorem imp1_noRow {k:Nat} {x y:AV} (h:imp1 cm top pk lv sl ver k x=some (y,[])):imp1 cm top pk lv' sl ver k x=some (y,[]):=by
 cases x with
 | agg cs =>
  simp only[imp1] at h ⊢
  cases hc:impCells cm top pk lv sl ver k cs with
  |none=>grind
  |some p=>
   obtain⟨a,b⟩:=p
   rw[hc] at h
   cases h
   rw[impCells_noRow hc]
   rfl
 |_=>simp only[imp1] at h ⊢;exact impCell_noRow h
theorem impTup_noRow:∀ {l ys:List AV} {k:Nat},impTup cm top pk lv sl ver k l=some (ys,[])→impTup cm top pk lv' sl ver k l=some (ys,[])
 |[],_,_,h=>h
 | x :: r, ys, k, h => by
  simp[impTup] at h ⊢
  split at h
  ·rename_i y u ys' us h1 h2
   simp at h
   obtain⟨rfl,rfl,rfl⟩:=h
   rw[imp1_noRow h1,impTup_noRow h2]
   rfl
  grind
theorem impR_noRow {x y:AV} (h:impR cm top pk lv sl ver x=some (y,[])):impR cm top pk lv' sl ver x=some (y,[]):=by
 cases x with
 | tup cs =>
  simp only[impR] at h ⊢
  cases hc:impTup cm top pk lv sl ver 1 cs with
  |none=>grind
  |some p=>
   obtain⟨a,b⟩:=p
   rw[hc] at h
   cases h
   rw[impTup_noRow hc]
   rfl
 |_=>simp only[impR] at h ⊢;exact imp1_noRow h
end
section
variable {m m':List (Tr Ent)}
theorem cellF_local {x:AV} (h:SameMem m m' (keysOf x)):cellF m' x=cellF m x:=by
 cases x with
 |ref lv sl ver off n sz=>simp[cellF];rw[elsOf_local h]
 |_=>rfl
theorem cellsG_local {f g:AV→Option D} : ∀ {l:List AV},(∀ x∈l,g x=f x)→cellsG g l=cellsG f l
 |[],_=>rfl
 |x :: r,h=>by
  simp only[cellsG]
  rw[h x (by simp),cellsG_local fun y hy=>h y (List.mem_cons_of_mem _ hy)]
theorem flatMap_local {f g:AV→List (Nat×Nat×Nat)} : ∀ {l:List AV},(∀ x∈l,g x=f x)→l.flatMap g=l.flatMap f
 |[],_=>rfl
 |x :: r,h=>by
  simp only[List.flatMap_cons]
  rw[h x (by simp),flatMap_local fun y hy=>h y (List.mem_cons_of_mem _ hy)]
theorem deepF_local:∀ (k:Nat) {x:AV},SameMem m m' (keyD m k x)→deepF m' k x=deepF m k x∧keyD m' k x=keyD m k x
 |0,x,h=>⟨cellF_local h,rfl⟩
 | k + 1, x, h => by
  cases x with
  | bref lv sl ver off n sz =>
   have hb:=boxAt_local (ver:=ver) (h lv sl (by simp[keyD]))
   cases hq:boxAt m lv sl ver with
   |none=>exact⟨by simp only[deepF,hb,hq],by simp only[keyD,hb,hq]⟩
   | some cs =>
    have hc:∀ x∈cs,SameMem m m' (keyD m k x):=fun x hx lv' sl' hk=>h lv' sl' (by
     simp only[keyD,hq,List.mem_cons]
     exact .inr (List.mem_flatMap.2 ⟨x,hx,hk⟩))
    refine⟨?_,?_⟩
    ·simp only [deepF, hb, hq]
     rw[cellsG_local fun x hx=>(deepF_local k (hc x (List.mem_of_mem_drop (List.mem_of_mem_take hx)))).1]
    ·simp only [keyD, hb, hq]
     rw[flatMap_local fun x hx=>(deepF_local k (hc x hx)).2]
  |_=>
   simp only[deepF,keyD] at h ⊢
   exact⟨cellF_local h,trivial⟩
theorem argF_local {x:AV} (h:SameMem m m' (keyF m x)):argF m' x=argF m x∧keyF m' x=keyF m x:=by
 cases x with
 | agg cs =>
  have hc:∀ x∈cs,SameMem m m' (keyD m 2 x):=fun x hx lv' sl' hk=>h lv' sl' (by
   simp only[keyF]
   exact List.mem_flatMap.2 ⟨x,hx,hk⟩)
  exact⟨by simp only[argF];rw[cellsG_local fun x hx=>(deepF_local 2 (hc x hx)).1],by simp only[keyF];rw[flatMap_local fun x hx=>(deepF_local 2 (hc x hx)).2]⟩
 |clo f c=>cases c<;>exact⟨rfl,rfl⟩
 |bref lv sl ver off n sz=>
  obtain⟨h1,h2⟩:=deepF_local 2 (x:=.bref lv sl ver off n sz) h
  exact⟨by simp only[argF];rw[h1],by simp only[keyF];rw[h2]⟩
 | ptr lv sl ver i off =>
  have hb:=boxAt_local (ver:=ver) (h lv sl (by simp[keyF]))
  cases hq:boxAt m lv sl ver with
  |none=>exact⟨by simp only[argF,hb,hq],by simp only[keyF,hb,hq]⟩
  | some cs =>
   have hc:∀ x∈cs,SameMem m m' (keyD m 2 x):=fun x hx lv' sl' hk=>h lv' sl' (by
    simp only[keyF,hq,List.mem_cons]
    exact .inr (List.mem_flatMap.2 ⟨x,hx,hk⟩))
   refine⟨?_,?_⟩
   ·simp only [argF, hb, hq]
    cases Nat.beq i 0 with
    |true=>
     simp only
     rw[cellsG_local fun x hx=>(deepF_local 2 (hc x hx)).1]
    |false=>rfl
   ·simp only [keyF, hb, hq]
    rw[flatMap_local fun x hx=>(deepF_local 2 (hc x hx)).2]
 |ref lv sl ver off n sz=>
  obtain⟨h1,h2⟩:=deepF_local 2 (x:=.ref lv sl ver off n sz) h
  exact⟨by simp only[argF];rw[h1],by simp only[keyF];rw[h2]⟩
 |_=>exact⟨rfl,rfl⟩
theorem argsF_local:∀ {l:List AV},SameMem m m' (l.flatMap (keyF m))→argsF m' l=argsF m l∧l.flatMap (keyF m')=l.flatMap (keyF m)
 |[],_=>⟨rfl,rfl⟩
 |x :: r,h=>by
  obtain⟨h1,h2⟩:=argF_local (x:=x) fun lv sl hk=>h lv sl (by simp[hk])
  obtain⟨h3,h4⟩:=argsF_local (l:=r) fun lv sl hk=>h lv sl (by simp only[List.flatMap_cons,List.mem_append];exact .inr hk)<;>grind[argF,SameMem,keyF,argsF]
end
theorem doFlat_local {f:Nat} {args:List AV} {r:Res} (h:doFlat call s f args=some r) (hn:Near s s' r):doFlat call s' f args=some r:=by
 unfold doFlat at h
 split at h
 ·cases h
 ·split at h
  ·cases h
  ·split at h
   case h_2=>cases h
   split at h
   case h_2=>cases h
   cases h
   obtain⟨h1,h2⟩:=argsF_local (m:=s.mem) (m':=s'.mem) (l:=args) hn.mem
   unfold doFlat<;>grind
theorem doCall_local {shd : Bool} {f : Nat} {args : List AV} {r : Res} {lv lv' : Nat} (h : doCall call shd row s lv d nvi f args = some r) (hn : Near s s' r) (hlv : s'.mem.length = s.mem.length → lv' = lv) : doCall call shd row s' lv' d nvi f args = some r := by
 unfold doCall at h ⊢
 cases shd with
 | false =>
  simp at h ⊢
  split at h
  ·cases h
  ·rename_i aSz ks hl
   split at h
   ·cases h
   ·rename_i r' cm _ _ hc
    split at h
    ·cases h
    ·rename_i v us hi
     split at h
     ·cases h
     ·rename_i u hu
      cases h
      have hks:SameMem s.mem s'.mem (keysE ks):=fun lv sl hk=>hn.mem lv sl (by
       obtain⟨p,hp,he⟩:=List.mem_map.1 hk
       rw[←he]
       exact lends_named hl p hp)
      rw[lends_local (m:=s.mem) hn.mem,hl]
      simp[hc,frees_local hks]
      have hlen:frees s.mem ks++u≠[]→s'.mem.length=s.mem.length:=fun hne=>hn.1 (by
       simp only[loud]
       cases hz:frees s.mem ks++u with
       |nil=>exact absurd hz hne
       |cons a b=>simp)
      by_cases hus:us=[]
      ·subst hus
       rw[impR_noRow hi]
       cases hu
       rfl
      ·have hlen := hlen (by
        unfold rowUpd at hu
        split at hu
        ·exact absurd rfl hus
        ·injection hu with hu;subst hu;simp
        ·cases hu)
       rw[hlv hlen,hi]
       simp only[hu]
 | true =>
  simp at h ⊢
  split at h
  ·cases h
  ·split at h
   ·cases h
   ·rename_i r' cm ts n hc
    split at h
    ·cases h
    ·rename_i v us hi
     split at h
     ·cases h
     ·rename_i u hu
      injection h with h;subst h
      obtain⟨h1,h2,h3⟩:=hn
      have h1:s'.mem=s.mem:=h1
      rw[hlv (by rw[h1]),h1,h2,h3,hc]
      simp only[hi,hu]
theorem doKeep_local {f:Nat} {args:List AV} {r:Res} (h:doKeep call s f args=some r) (hn:Near s s' r):doKeep call s' f args=some r:=by
 unfold doKeep at h ⊢
 split at h
 ·cases h
 ·split at h
  ·cases h
  ·rename_i r' cm ts n hc
   injection h with h;subst h
   obtain⟨h1,h2,h3⟩:=hn
   have h1:s'.mem=s.mem:=h1
   rw[h1,h2,h3,hc]
theorem hide_len {m m':List (Tr Ent)} {kp:List (Nat×Nat)} (h:hide m' kp=hide m kp):m'.length=m.length:=by
 rw[←hide_length m' kp,←hide_length m kp,h]
theorem doHide_local {kp kp' kr kr':List (Nat×Nat)} {lv lv':Nat} {f:Nat} {args:List AV} {r:Res} (h:doHide call row kp kr s lv d nvi f args=some r) (hn:Near s s' r) (hlv:s'.mem.length=s.mem.length→hide s'.mem kp=hide s.mem kp→lv'=lv∧kp'=kp∧kr'=kr):doHide call row kp' kr' s' lv' d nvi f args=some r:=by
 unfold doHide at h ⊢
 split at h
 ·cases h
 rename_i ha
 split at h
 ·cases h
 rename_i r' cm ts n hc
 split at h
 ·cases h
 rename_i v us hi
 split at h
 ·cases h
 rename_i u hu
 split at h
 case h_2=>cases h
 rename_i hok
 injection h with h;subst h
 obtain⟨h1,h2,h3⟩:=hn
 have hlen:=hide_len h1
 obtain⟨e1,e2,e3⟩:=hlv hlen h1
 rw[e1,e2,e3,h1,h2,h3,hc,hlen]
 simp only[hi,hu,hok]
theorem lvQ_len {d:Nat} (h:s'.mem.length=s.mem.length):lvQ s'.mem.length d=lvQ s.mem.length d:=by
 unfold lvQ
 rw[h]
theorem give_local {m m':List (Tr Ent)} {x:AV} (h:SameMem m m' (keysIn x)):give m' x=give m x:=by
 cases x with
 |agg cs=>simp[give];rw[giveCells_local h]
 |_=>simp only[give];rw[giveCell_local h]
theorem gives_local {m m':List (Tr Ent)} : ∀ {l:List AV},SameMem m m' (l.flatMap keysIn)→gives m' l=gives m l
 |[],_=>rfl
 |x :: r,h=>by
  simp[gives]
  rw[give_local fun lv sl hk=>h lv sl (by simp[hk]),gives_local fun lv sl hk=>h lv sl (by simp only[List.flatMap_cons,List.mem_append];exact .inr hk)]
theorem give_named {m:List (Tr Ent)} {x y:AV} {ks:List (Nat×Nat)} (h:give m x=some (y,ks)):∀ p∈ks,keyE p.1 p.2∈keysIn x:=by
 cases x with
 |agg cs=>
  obtain⟨⟨ys,k⟩,h1,h⟩:=opt_map h
  cases h
  exact giveCells_named h1
 |_=>simp only[give] at h;exact giveCell_named h
theorem gives_named {m:List (Tr Ent)} : ∀ {xs ys:List AV} {ks:List (Nat×Nat)},gives m xs=some (ys,ks)→∀ p∈ks,keyE p.1 p.2∈xs.flatMap keysIn
 |[],_,_,h=>by cases h;simp
 | x :: r, _, _, h => by
  simp[gives] at h
  split at h
  ·rename_i h1 h2
   cases h
   intro p hp
   rw[List.flatMap_cons,List.mem_append]
   rcases List.mem_append.1 hp with hp|hp
   ·exact .inl (give_named h1 p hp)
   ·exact .inr (gives_named h2 p hp)
  grind
theorem doGive_local {f:Nat} {args:List AV} {r:Res} (h:doGive call s nvi f args=some r) (hn:Near s s' r):doGive call s' nvi f args=some r:=by
 unfold doGive at h ⊢
 split at h
 ·cases h
 ·rename_i aSz ks hl
  split at h
  ·cases h
  ·rename_i r' cm _ _ hc
   split at h
   ·rename_i v hi
    cases h
    have hm:=hn.mem
    rw[gives_local hm,hl]
    simp[hc,hi]
    rw[frees_local (m:=s.mem) (m':=s'.mem) fun lv sl hk=>hm lv sl ?_]
    obtain⟨p,hp,he⟩:=List.mem_map.1 hk
    exact he ▸ gives_named hl p hp
   grind
theorem lendCs_local {m m':List (Tr Ent)} : ∀ {l:List AV},SameMem m m' (l.flatMap keysOf)→lendCs m' l=lendCs m l
 |[],_=>rfl
 |x :: r,h=>by
  simp[lendCs]
  rw[lendCell_local fun lv sl hk=>h lv sl (by simp[hk]),lendCs_local fun lv sl hk=>h lv sl (by simp only[List.flatMap_cons,List.mem_append];exact .inr hk)]
theorem lendS_local {m m':List (Tr Ent)} {x:AV} (h:SameMem m m' (keysIn x)):lendS m' x=lendS m x:=by
 cases x with
 |agg cs=>simp[lendS];rw[lendCs_local h]
 |_=>simp only[lendS];rw[lendCell_local h]
theorem lendSs_local {m m':List (Tr Ent)} : ∀ {l:List AV},SameMem m m' (l.flatMap keysIn)→lendSs m' l=lendSs m l
 |[],_=>rfl
 |x :: r,h=>by
  simp[lendSs]
  rw[lendS_local fun lv sl hk=>h lv sl (by simp[hk]),lendSs_local fun lv sl hk=>h lv sl (by simp only[List.flatMap_cons,List.mem_append];exact .inr hk)]
theorem doLend_local {f:Nat} {args:List AV} {r:Res} (h:doLend call s nvi f args=some r) (hn:Near s s' r):doLend call s' nvi f args=some r:=by
 unfold doLend at h ⊢
 split at h
 ·cases h
 ·rename_i aSz hl
  split at h
  ·cases h
  ·split at h
   ·cases h
    have hm:=hn.mem
    rw[lendSs_local hm,hl]<;>grind
   grind
theorem run_local {op : AOp} {r : Res} (h : op.run call sh s row d nvi = some r) (hs : ∀ x ∈ op.opds, x.ev s'.slots = x.ev s.slots) (hn : Near s s' r) : op.run call sh s' row d nvi = some r := by
 cases op with
 |alloc z=>
  simp only[AOp.run] at h ⊢
  injection h with h;subst h
  rw[lvQ_len (hn.1 loud_upd)]
 | box x =>
  simp only[AOp.opds,List.mem_cons,List.not_mem_nil,or_false,forall_eq] at hs
  simp only[AOp.run,hs] at h ⊢
  split at h
  ·obtain ⟨cs, hcs, rfl⟩ := opt_map h
   rw[hcs,hn.1 loud_upd];rfl
  split at h
  ·exact h
  obtain⟨cs,hcs,rfl⟩:=opt_map h
  rw[hcs,lvQ_len (hn.1 loud_upd)];rfl
 | makeSlice sz b z x y =>
  simp only[AOp.opds,List.mem_cons,List.not_mem_nil,or_false,forall_eq_or_imp,forall_eq] at hs
  simp only[AOp.run,hs.1,hs.2] at h ⊢
  split at h
  ·split at h
   ·rename_i hc
    injection h with h;subst h
    rw[if_pos hc,lvQ_len (hn.1 loud_upd)]
   ·cases h
  ·cases h
 |build z ps=>
  simp only[AOp.run] at h ⊢
  rw[fillA_local hs];exact h
 | buildSlice sz n z ps =>
  simp only[AOp.run] at h ⊢
  cases hr2:Nat.beq row 2 with
  | true =>
   rw[hr2] at h
   simp only at h ⊢
   split at h
   ·cases h
   ·cases hf : fillA s.slots ((List.replicate n z).flatten.map .d) (ps.map fun p => (p.1 * sz, sz, p.2)) with
    |none=>rw[hf] at h;cases h
    | some cs =>
     rw[hf] at h
     simp only[Option.map_some,Option.some.injEq] at h
     subst h
     rw[fillA_local (s:=s) (fun x hx=>hs x (by
      simp only[List.map_map] at hx
      exact hx)),hf,lvQ_len (hn.1 loud_upd)]
     rfl
  |false=>
  rw[hr2] at h
  simp only at h ⊢
  rw[fillD_slots hs]
  split at h
  ·cases h
  ·rename_i els ks hf
   split at h
   ·injection h with h; subst h
    rw[fillD_keys hf hn.mem]
    simp only[frees_local (m:=s.mem) hn.mem]
   ·split at h
    ·cases h
    ·rename_i hk
     injection h with h;subst h
     rw[fillD_keys hf hn.mem]
     simp only[frees_local (m:=s.mem) hn.mem]
     rw[lvQ_len (hn.1 loud_upd'),if_neg hk]
 |load sz agg x=>
  simp only[AOp.opds,List.mem_cons,List.not_mem_nil,or_false,forall_eq] at hs
  simp only[AOp.run,hs] at h ⊢
  obtain⟨cs,hcs,h⟩:=opt_bind h
  obtain⟨v,hv,rfl⟩:=opt_map h
  rw[loadA_local (m:=s.mem) hn.mem,hcs]
  simp only[Option.bind_some,hv,Option.map_some]
 |store sz x y=>
  simp only[AOp.opds,List.mem_cons,List.not_mem_nil,or_false,forall_eq_or_imp,forall_eq] at hs
  simp only[AOp.run,hs.1,hs.2] at h ⊢
  obtain⟨e,he,rfl⟩:=opt_map h
  rw[storeA_local he hn.mem];rfl
 | append sz b x y =>
  simp only[AOp.opds,List.mem_cons,List.not_mem_nil,or_false,forall_eq_or_imp,forall_eq] at hs
  simp only[AOp.run,hs.1,hs.2] at h ⊢
  split at h
  ·obtain ⟨e, he, rfl⟩ := opt_map h
   rw[appendB_local he (fun hl=>by rw[lvQ_len (hn.1 hl)]) hn.2];rfl
  obtain⟨e,he,rfl⟩:=opt_map h
  rw[placeA_snd (t':=lvQ s.mem.length d),appendA_local he (fun hl=>by rw[lvQ_len (hn.1 hl)]) hn.2];rfl
 |mkSet=>
  simp only[AOp.run] at h ⊢
  injection h with h;subst h
  rw[lvQ_len (hn.1 loud_upd)]
 |b2s x=>
  simp only[AOp.opds,List.mem_cons,List.not_mem_nil,or_false,forall_eq] at hs
  simp only[AOp.run,hs] at h ⊢
  obtain⟨els,hel,h⟩:=opt_bind h
  obtain⟨l,hl,rfl⟩:=opt_map h
  rw[elsOf_local (m:=s.mem) hn.mem,hel]
  simp only[Option.bind_some,hl,Option.map_some]
 | hasK x y =>
  simp only[AOp.opds,List.mem_cons,List.not_mem_nil,or_false,forall_eq_or_imp,forall_eq] at hs
  simp only[AOp.run,hs.1,hs.2] at h ⊢
  split at h
  ·rename_i lv sl ver b h1 h2
   obtain⟨ks,hk,rfl⟩:=opt_map h
   rw[setAt_local (hn.mem _ _ (List.mem_cons_self ..)),hk]
   rfl
  ·cases h
 | addK x y =>
  simp only[AOp.opds,List.mem_cons,List.not_mem_nil,or_false,forall_eq_or_imp,forall_eq] at hs
  simp only[AOp.run,hs.1,hs.2] at h ⊢
  split at h
  ·rename_i lv sl ver b h1 h2
   obtain⟨ks,hk,rfl⟩:=opt_map h
   rw[setAt_local (hn.mem _ _ (List.mem_cons_self ..)),hk]
   rfl
  ·cases h
 | appendZ sz b z x n =>
  simp only[AOp.opds,List.mem_cons,List.not_mem_nil,or_false,forall_eq_or_imp,forall_eq] at hs
  simp only[AOp.run,hs.1,hs.2] at h ⊢
  obtain⟨k,hk,h⟩:=opt_bind h
  simp only[hk,Option.bind_some]
  split at h
  ·rename_i hc
   rw[if_pos hc]
   obtain⟨e,he,rfl⟩:=opt_map h
   rw[appendA_local he (fun hl=>by rw[lvQ_len (hn.1 hl)]) hn.2];rfl
  ·cases h
 | mov x =>
  simp only[AOp.opds,List.mem_cons,List.not_mem_nil,or_false,forall_eq] at hs
  simp only[AOp.run,hs] at h ⊢
  split at h
  ·obtain ⟨E, hE, rfl⟩ := opt_map h
   unfold moveA at hE ⊢
   split at hE
   ·rename_i lv' sl' ver off len sz he
    split at hE
    ·rename_i els hr
     split at hE
     ·rename_i hb
      injection hE with hE;subst hE
      rw[rowAt_local (hn.mem _ _ (List.mem_cons_self ..)),hr]
      simp only[hb]
      rw[lvQ_len (hn.1 loud_upd)]
      rfl
     ·cases hE
    ·cases hE
   ·cases hE
  ·injection h with h; subst h
   rw[movA_local fun hl=>by rw[lvQ_len (hn.1 hl)]]
 |compact x=>
  simp only[AOp.opds,List.mem_cons,List.not_mem_nil,or_false,forall_eq] at hs
  simp only[AOp.run,hs] at h ⊢
  obtain⟨e,he,rfl⟩:=opt_map h
  rw[compactA_local he hn.2];rfl
 |sort x=>
  simp only[AOp.opds,List.mem_cons,List.not_mem_nil,or_false,forall_eq] at hs
  simp only[AOp.run,hs] at h ⊢
  obtain⟨e,he,rfl⟩:=opt_map h
  rw[sortA_local he hn.2];rfl
 | clone sz b x =>
  simp only[AOp.opds,List.mem_cons,List.not_mem_nil,or_false,forall_eq] at hs
  simp only[AOp.run,hs] at h ⊢
  split at h
  ·obtain ⟨e, he, rfl⟩ := opt_map h
   rw[appendB_local he (fun hl=>by rw[lvQ_len (hn.1 hl)]) hn.2];rfl
  split at h
  ·rename_i els hq
   obtain⟨e,he,rfl⟩:=opt_map h
   rw[appendA_local he (fun hl=>by rw[lvQ_len (hn.1 hl)]) hn.2]
   have : ∃ els, elsOf s'.mem (x.ev s.slots) = some els := by
    refine⟨els,?_⟩
    rw[elsOf_local (m:=s.mem) fun lv sl hk=>hn.mem lv sl ?_,hq]
    unfold appendA at he
    split at he
    ·cases he
    ·split at he
     ·simp only at he
      split at he
      ·split at he
       ·injection he with he;subst he;exact hk
       ·split at he
        ·cases he
        ·injection he with he;subst he;exact hk
      ·cases he
     ·cases he
   obtain⟨els',h'⟩:=this
   rw[h'];rfl
  ·cases h
 | copy sz x y =>
  simp only[AOp.opds,List.mem_cons,List.not_mem_nil,or_false,forall_eq_or_imp,forall_eq] at hs
  simp only[AOp.run,hs.1,hs.2] at h ⊢
  split at h
  ·rename_i lv sl ver off n sz' news hx hy
   split at h
   ·rename_i cs hb
    split at h
    ·rename_i hc
     injection h with h;subst h
     have hm:=hn.mem
     rw[newsOf_local (m:=s.mem) fun lv sl hk=>hm lv sl (List.mem_cons_of_mem _ hk),hy,hx]
     simp only
     rw[boxAt_local (hm _ _ (List.mem_cons_self ..)),hb]
     simp only
     rw[if_pos hc]
    ·cases h
   ·cases h
  ·rename_i lv sl ver off n sz' news hx hy
   split at h
   ·rename_i cs hb
    split at h
    ·rename_i hc
     injection h with h;subst h
     have hm:=hn.mem
     rw[newsOf_local (m:=s.mem) fun lv sl hk=>hm lv sl (List.mem_cons_of_mem _ hk),hy,hx]
     simp only
     rw[rowAt_local (hm _ _ (List.mem_cons_self ..)),hb]
     simp only
     rw[if_pos hc]
    ·cases h
   ·cases h
  ·cases h
 | clear sz z x =>
  simp only[AOp.opds,List.mem_cons,List.not_mem_nil,or_false,forall_eq] at hs
  simp only[AOp.run,hs] at h ⊢
  split at h
  ·split at h
   ·rename_i els hr
    split at h
    ·rename_i hc
     injection h with h;subst h
     rw[rowAt_local (hn.mem _ _ (List.mem_cons_self ..)),hr]
     simp only
     rw[if_pos hc]
    ·cases h
   ·cases h
  ·cases h
 | call f args =>
  simp only[AOp.run] at h ⊢
  rw[evs_local (l:=args) hs]
  cases hk:Nat.ble 1099511627776 row with
  |true=>rw[hk] at h;exact doHide_local h hn fun hl hh=>⟨lvQ_len hl,by rw[hl],by rw[hl,hh]⟩
  |false=>
  rw[hk] at h
  simp only at h ⊢
  cases h7:Nat.beq row 7 with
  |true=>rw[h7] at h;exact doFlat_local h hn
  | false =>
   cases h8:Nat.beq row 8 with
   |true=>rw[h7,h8] at h;exact doKeep_local h hn
   | false =>
    cases h9:Nat.beq row 9 with
    |true=>rw[h7,h8,h9] at h;exact doGive_local h hn
    |false=>
     cases h10:Nat.beq row 10 with
     |true=>rw[h7,h8,h9,h10] at h;exact doLend_local h hn
     |false=>rw[h7,h8,h9,h10] at h;exact doCall_local h hn fun hl=>lvQ_len hl
 |callF f args=>
  simp only[AOp.run] at h ⊢
  rw[evs_local (l:=args) hs]
  cases hk:Nat.ble 1099511627776 row with
  |true=>rw[hk] at h;exact doHide_local h hn fun hl hh=>⟨lvQ_len hl,by rw[hl],by rw[hl,hh]⟩
  |false=>
  rw[hk] at h
  simp only at h ⊢
  cases hsf:sh f with
  |true=>rw[hsf] at h;exact doCall_local h hn fun hl=>lvQ_len hl
  |false=>rw[hsf] at h;exact doFlat_local h hn
 | callv x args =>
  simp only[AOp.opds,List.mem_cons,forall_eq_or_imp] at hs
  simp only[AOp.run,hs.1] at h ⊢
  split at h
  ·rw [evs_local hs.2]
   exact doCall_local h hn fun hl=>lvQ_len hl
  ·cases h
 |makeFunc f args=>
  simp only[AOp.run] at h ⊢
  rw[evs_local (l:=args) hs];exact h
 | slice sz x a b c =>
  simp only[AOp.opds,List.mem_cons,List.mem_append,forall_eq_or_imp] at hs
  simp only[AOp.run,hs.1] at h ⊢
  rw[boundA_local fun y hy=>hs.2 y (.inl (.inl hy)),boundA_local fun y hy=>hs.2 y (.inl (.inr hy)),boundA_local fun y hy=>hs.2 y (.inr hy)]
  split at h
  ·split at h
   ·obtain ⟨e, he, rfl⟩ := opt_map h
    rw[cutA_local he hn.2];rfl
   ·exact h
  ·cases h
 | sliceS x a b =>
  simp only[AOp.opds,List.mem_cons,List.mem_append,forall_eq_or_imp] at hs
  simp only[AOp.run,hs.1] at h ⊢
  split at h
  ·rw [boundA_local fun y hy => hs.2 y (.inl hy), boundA_local fun y hy => hs.2 y (.inr hy)]
   exact h
  ·cases h
 |lenC n=>exact h
 |bad=>exact h
 |pick a b c=>
  simp only[AOp.opds,List.mem_cons,List.not_mem_nil,or_false,forall_eq_or_imp,forall_eq] at hs
  simp only[AOp.run,hs.1,hs.2.1,hs.2.2] at h ⊢
  exact h
 |nilCheck x|isErr _ x|un _ x|conv _ x|field _ _ _ x|fieldAddr _ x|extract x _|len x|lenS x|capF x|s2b x|sliceB _ _ x|sliceL _ _ _ x=>
  simp only[AOp.opds,List.mem_cons,List.not_mem_nil,or_false,forall_eq] at hs
  simp only[AOp.run,hs] at h ⊢
  exact h
 |bin _ x y|eqb _ x y|eqA _ _ _ x y|indexAddr _ x y|indexArr _ _ x y|indexA _ _ _ x y|indexS x y|mini x y|maxi x y|grow _ x y=>
  simp only[AOp.opds,List.mem_cons,List.not_mem_nil,or_false,forall_eq_or_imp,forall_eq] at hs
  simp only[AOp.run,hs.1,hs.2] at h ⊢
  exact h
end
end Go.Eng
