/- The machine over typed data: operations on the memory. -/
import Derived.Test.YtlfhlggkbcncoaaSymE
namespace Go.Sym
open Go Go.Eng
section
variable {α : Type} {ρ : VMap} {B B':Nat} {s2:S2} {s:St} {op:AOp} {row dst p nx:Nat} {K:Res2→Option α} {r : α} {E:SEnv} {wk:Wk} {ctx:Nat}
theorem updM_append:∀ (a b:List (Nat×Nat×Option E2)) (m:List (Tr E2)),updM m (a++b)=updM (updM m a) b
 |[],_,_=>rfl
 |(lv,sl,e) :: r,b,m=>by simp only[List.cons_append,updM,updM_append r b]
theorem rowOf_mset_none {m:List (Tr E2)} {lv sl lv' sl' ver:Nat} {r:SL} (h:rowOf (mset m lv sl none) lv' sl' ver=some r):rowOf m lv' sl' ver=some r:=by
 have:=rowOf_some h
 rw[mget_mset] at this
 split at this
 ·cases this
 ·exact rowOf_iff.2 this
theorem rowOf_frees:∀ {ks:List (Nat×Nat)} {m:List (Tr E2)} {lv sl ver:Nat} {r:SL},rowOf (updM m (frees2 ks)) lv sl ver=some r→rowOf m lv sl ver=some r
 |[],_,_,_,_,_,h=>h
 |(a,b) :: ks,m,_,_,_,_,h=>rowOf_mset_none (rowOf_frees (ks:=ks) (m:=mset m a b none) h)
theorem stab_frees {m:List (Tr E2)} {ks:List (Nat×Nat)} : Stab B m (updM m (frees2 ks)):=fun _ _ _ r _ h=>⟨r,rowOf_frees h,rfl⟩
def EntFit (B:Nat) (m:List (Tr E2)) (lv sl:Nat):E2→Prop
 |.box _ _=>True
 |.row ver _ l=>B≤ver∨∃ r,rowOf m lv sl ver=some r∧r.l.length=l.length
 |.set _ _=>True
theorem stab_new {m:List (Tr E2)} {ks:List (Nat×Nat)} {lv sl:Nat} {e:E2} (h:EntFit B m lv sl e):Stab B m (updM m (frees2 ks++[(lv,sl,some e)])):=by
 intro lv' sl' ver r' hv hr
 rw[updM_append] at hr
 simp only[updM] at hr
 have:=rowOf_some hr
 rw[mget_mset] at this
 split at this
 ·rename_i hc
  obtain⟨rfl,rfl,_⟩:=hc
  injection this with this
  subst this
  rcases h with h|⟨r,h1,h2⟩
  ·omega
  ·exact⟨r,h1,h2⟩
 ·exact⟨r',rowOf_frees (rowOf_iff.2 this),rfl⟩
theorem updR_frees {mf:List (Tr E2)} : ∀ {m:List (Tr Ent)} {ks:List (Nat×Nat)},All2 (UpdR ρ B mf) (frees2 ks) (frees m ks)
 |_,[]=>trivial
 |m,k :: ks=>⟨⟨rfl,rfl,fun _ h=>by cases h⟩,updR_frees (m:=m) (ks:=ks)⟩
theorem updR_one {mf:List (Tr E2)} {lv sl:Nat} {e2:E2} {e:Ent} (h:RE ρ B mf e2 e):All2 (UpdR ρ B mf) [(lv,sl,some e2)] [(lv,sl,some e)]:=
 ⟨⟨rfl,rfl,fun x hx=>by injection hx with hx;subst hx;exact⟨e,rfl,h⟩⟩,trivial⟩
theorem updR_keys {mf:List (Tr E2)} : ∀ {us2:List (Nat×Nat×Option E2)} {us:List (Nat×Nat×Option Ent)},All2 (UpdR ρ B mf) us2 us→KeysR ρ (us2.map fun u=>keyE u.1 u.2.1) (us.map fun u=>keyE u.1 u.2.1)
 |[],[],_=>KeysR.nil
 |(a,b,c) :: r2,(a',b',c') :: r,h=>by
  obtain⟨⟨h1,h2,_⟩,h4⟩:=h
  simp only at h1 h2
  subst h1 h2
  exact KeysR.consE _ _ (updR_keys h4)
 |[],_ :: _,h=>h.elim
 |_ :: _,[],h=>h.elim
theorem KeysR.consT {a b:List (Nat×Nat×Nat)} {v u:Nat} (hu : ρ v=some u) (h:KeysR ρ a b):KeysR ρ (keyT v :: a) (keyT u :: b):=by
 intro x hx
 rcases List.mem_cons.1 hx with rfl|hx
 ·exact⟨_,List.mem_cons_self,.inr ⟨v,u,rfl,rfl,hu⟩⟩
 ·obtain⟨y,h1,h2⟩:=h x hx;exact⟨y,List.mem_cons_of_mem _ h1,h2⟩
theorem KeysR.skip {a b:List (Nat×Nat×Nat)} {k:Nat×Nat×Nat} (h:KeysR ρ a b):KeysR ρ (k :: a) b:=fun x hx=>by
 obtain⟨y,h1,h2⟩:=h x hx;exact⟨y,List.mem_cons_of_mem _ h1,h2⟩
theorem EffOK.of_mem (hm:MR ρ B s2.mem s.mem) (ht:TR ρ B s2.tips s.tips) (hB:B≤B') {us2:List (Nat×Nat×Option E2)} {us:List (Nat×Nat×Option Ent)} {v:V2} {a:AV} {rd2 rd:List (Nat×Nat×Nat)}
  (hst:Stab B s2.mem (updM s2.mem us2)) (hu:All2 (UpdR ρ B' (updM s2.mem us2)) us2 us) (hv:RV ρ B' (updM s2.mem us2) v a) (hr:KeysR ρ rd2 rd) :
  EffOK ρ B B' s2 s { val:=v,upd:=us2,tip:=[],rd:=rd2 } { val:=a,upd:=us,tip:=[],rd:=rd }:=
 ⟨hv, hm.upd hB hst hu, ht.up hB, hst, hr, by
  unfold Eff2.wr Eff.wr
  exact (updR_keys hu).append KeysR.nil⟩
theorem undef_rv {m:List (Tr E2)} : RV ρ B m (.tup []) undefA:=⟨[],rfl,trivial⟩
variable (hm:MR ρ B s2.mem s.mem) (ht:TR ρ B s2.tips s.tips) (hsl:SlR ρ B s2.mem s2.slots s.slots) (hB:B≤nx) (hnx : ρ nx=some p)
include hm ht hB hnx
theorem does_box1 {cs:List Cell} {as:List AV} (hc:All2 (RC ρ B s2.mem) cs as)
  (hrun:∀ call sh,op.run call sh s row dst p=some (.eff { val:=.ptr (s.mem.length-1) dst p 0 0,upd:=[(s.mem.length-1,dst,some (.box p as))],tip:=[],rd:=[] }))
  (h:K (.eff { val:=.c (.ptr (s2.mem.length-1) dst nx 0 0),upd:=[(s2.mem.length-1,dst,some (.box nx cs))],tip:=[],rd:=[] })=some r):Does ρ B (nx+1) s2 s op row dst p K r:=by
 have hst:Stab B s2.mem (updM s2.mem [(s2.mem.length-1,dst,some (.box nx cs))]):=stab_new (ks:=[]) (e:=.box nx cs) trivial
 rw[hm.len] at h hst
 refine⟨_,_,hrun,.of_mem hm ht (by omega) hst (updR_one ⟨by omega,p,as,hnx,rfl,hc.mono fun _ _=>RC.move hst (by omega) fun _ _=>rfl⟩) (v:=.c (.ptr (s.mem.length-1) dst nx 0 0)) ⟨by omega,p,hnx,rfl⟩ KeysR.nil,h⟩
theorem does_alloc {z:List AV} (h:run2 E wk ctx s2 row dst nx (.alloc z) K=some r):Does ρ B (nx+1) s2 s (.alloc z) row dst p K r:=by
 simp only[run2] at h
 obtain⟨cs,hc,h⟩:=optK_some h
 exact does_box1 hm ht hB hnx (cstCs_ok hc) (fun _ _=>rfl) h
include hsl in
theorem does_box {x:Opd} (h:run2 E wk ctx s2 row dst nx (.box x) K=some r):Does ρ B (nx+1) s2 s (.box x) row dst p K r:=by
 simp only[run2] at h
 obtain⟨cs,hc,h⟩:=optK_some h
 obtain⟨v,hv,h1⟩:=opt_bind hc
 obtain⟨as,g1,g2⟩:=cells_ok h1 (ev2_ok hsl hv)
 exact does_box1 hm ht hB hnx g2 (fun _ _=>by simp only[AOp.run,g1,Option.map_some]) h
omit hnx hB ht in
theorem loadK_ok {sz:Nat} {pc:Cell} {a:AV} {K:List Cell→Option α} (h:loadK s2.mem sz pc K=some r) (hp:RC ρ B s2.mem pc a):∃ cs as,loadA s.mem sz a=some as∧All2 (RC ρ B s2.mem) cs as∧K cs=some r:=by
 unfold loadK at h
 split at h
 ·rename_i lv sl ver i off
  obtain⟨hv,u,hu,rfl⟩:=hp
  split at h
  ·rename_i v cs he
   split at h
   ·rename_i hb
    simp only[Bool.and_eq_true] at hb
    obtain⟨⟨hv1,hi⟩,hl⟩:=hb
    have hv1:=Nat.eq_of_beq_eq_true hv1
    have hi:=Nat.eq_of_beq_eq_true hi
    have hl:=Nat.le_of_ble_eq_true hl
    subst hv1 hi
    obtain⟨e,g1,_,u',as,g2,rfl,g3⟩:=hm.ents _ _ _ he
    rw[hu] at g2;injection g2 with g2;subst g2
    refine⟨_,(as.drop off).take sz,?_,(g3.drop off).take sz,h⟩
    simp only[loadA,g1,beq_self]
    rw[if_pos (by rw[←g3.length];exact hl)]
   ·cases h
  ·rename_i v t l he
   split at h
   ·rename_i hb
    simp only[Bool.and_eq_true] at hb
    obtain⟨hv1,hl⟩:=hb
    have hv1:=Nat.eq_of_beq_eq_true hv1
    have hl:=Nat.le_of_ble_eq_true hl
    subst hv1
    obtain⟨x,hx,h⟩:=bind_some h
    obtain⟨e,g1,_,u',g2,rfl⟩:=hm.ents _ _ _ he
    rw[hu] at g2;injection g2 with g2;subst g2
    refine⟨_,(((encs t x).map .d).drop off).take sz,?_,((cellsT_ok t x).drop off).take sz,h⟩
    have:(encL t l)[i]?=some (encs t x):=by rw[encL_get,hx];rfl
    simp only[loadA,g1,beq_self,this]
    rw[if_pos (by rw[encs_length];exact hl)]
    simp[List.map_take,List.map_drop]
   ·cases h
  ·cases h
  ·cases h
 ·rename_i t x off
  split at h
  ·rename_i hl
   have hl:=Nat.le_of_ble_eq_true hl
   have e:a=_:=hp
   refine⟨_,(((encs t x).map .d).drop off).take sz,?_,((cellsT_ok t x).drop off).take sz,h⟩
   rw[e]
   simp only[loadA]
   rw[if_pos (by rw[encs_length];exact hl)]
   simp[List.map_take,List.map_drop]
  ·cases h
 ·cases h
omit hnx in
include hsl in
theorem does_load {sz:Nat} {agg:Bool} {x:Opd} (h:run2 E wk ctx s2 row dst nx (.load sz agg x) K=some r):Does ρ B (nx+1) s2 s (.load sz agg x) row dst p K r:=by
 simp only[run2] at h
 obtain⟨pc,hx,h⟩:=cellK_some h
 have hx:=ev2_ok hsl hx
 obtain⟨cs,as,g1,g2,h⟩:=loadK_ok hm h hx
 obtain⟨v,hv,h⟩:=optK_some h
 obtain⟨a,g3,g4⟩:=wrap2_ok hv g2
 exact⟨_,_,fun _ _=>by simp only[AOp.run,g1,g3,Option.bind_some,Option.map_some],.of_val hm ht (by omega) g4 (keyC_ok hx),h⟩
omit hm ht hB hnx in
theorem hasKey_false {ks:List (Nat×Nat)} {lv sl:Nat} (h:hasKey ks lv sl=false):¬(lv,sl)∈ks:=by
 intro hk
 have:hasKey ks lv sl=true:=by
  unfold hasKey
  rw[List.any_eq_true]
  exact⟨_,hk,by simp⟩
 rw[h] at this
 cases this
omit hm ht hB hnx in
theorem cellDs_cellsT:∀ (t:Ty) (x:t.den),cellDs (cellsT t x)=some (encs t x)
 |.val,v=>by
  cases v
  simp[cellsT,cellDs,cellD,encs,encV,Val.kind,Val.int,Val.text,Val.list,Val.cut,encL,encVs_map]
 |.int _,_=>rfl
 |.bool,_=>rfl
 |.str,_=>rfl
 |.sl _,_=>rfl
 |.unit,_=>rfl
 |.prod a b,x=>cellDs_append (cellDs_cellsT a x.1) (cellDs_cellsT b x.2)
 |.sum _ _,_=>rfl
omit hm ht hB hnx in
theorem cellDs_length:∀ {cs:List Cell} {ds:List D},cellDs cs=some ds→ds.length=cs.length
 |[],ds,h=>by simp only[cellDs,Option.some.injEq] at h;subst h;rfl
 |c :: r,ds,h=>by
  obtain⟨x,xs,h1,h2,rfl⟩:=cellDs_cons h
  simp[cellDs_length h2]
omit hm ht hB hnx in
theorem cellDs_take:∀ {cs:List Cell} {ds:List D} (n:Nat),cellDs cs=some ds→cellDs (cs.take n)=some (ds.take n)
 |_,_,0,_=>by simp[cellDs]
 |[],ds,n+1,h=>by simp only[cellDs,Option.some.injEq] at h;subst h;rfl
 |c :: r,ds,n+1,h=>by
  obtain⟨x,xs,h1,h2,rfl⟩:=cellDs_cons h
  simp only[List.take_succ_cons,cellDs,h1,cellDs_take n h2]
omit hm ht hB hnx in
theorem cellDs_drop:∀ {cs:List Cell} {ds:List D} (n:Nat),cellDs cs=some ds→cellDs (cs.drop n)=some (ds.drop n)
 |_,_,0,h=>by simpa using h
 |[],ds,n+1,h=>by simp only[cellDs,Option.some.injEq] at h;subst h;rfl
 |c :: r,ds,n+1,h=>by
  obtain⟨x,xs,h1,h2,rfl⟩:=cellDs_cons h
  simpa using cellDs_drop n h2
omit hm ht hB hnx in
theorem cellDs_splice {cs new:List Cell} {ds ds':List D} (h:cellDs cs=some ds) (h':cellDs new=some ds') (off:Nat):cellDs (Eng.splice cs off new)=some (Eng.splice ds off ds'):=by
 unfold Eng.splice
 rw[cellDs_length h']
 exact cellDs_append (cellDs_append (cellDs_take off h) h') (cellDs_drop _ h)
omit hnx in
theorem storeK_ok {sz:Nat} {pc:Cell} {new:List Cell} {a v:AV} {as:List AV} (h:storeK s2.mem sz pc new K=some r) (hp:RC ρ B s2.mem pc a) (hv:cellsOf v=some as) (hn:All2 (RC ρ B s2.mem) new as) :
  ∃ E e,storeA s.mem sz a v=some e∧EffOK ρ B (nx+1) s2 s E e∧K (.eff E)=some r:=by
 unfold storeK at h
 split at h
 ·rename_i lv sl ver i off hz
  have hz:=Nat.eq_of_beq_eq_true hz
  rw[hn.length] at hz
  obtain⟨hver,u,hu,rfl⟩:=hp
  split at h
  ·rename_i vv cs he
   split at h
   ·rename_i hb
    simp only[Bool.and_eq_true] at hb
    obtain⟨⟨hv1,hi⟩,hl⟩:=hb
    have hv1:=Nat.eq_of_beq_eq_true hv1
    have hi:=Nat.eq_of_beq_eq_true hi
    have hl:=Nat.le_of_ble_eq_true hl
    subst hv1 hi
    obtain⟨e,g1,_,u',bs,g2,rfl,g3⟩:=hm.ents _ _ _ he
    rw[hu] at g2;injection g2 with g2;subst g2
    have hst:Stab B s2.mem (updM s2.mem [(lv,sl,some (.box vv (Eng.splice cs off new)))]):=stab_new (ks:=[]) (e:=.box _ _) trivial
    refine⟨_,_,?_,.of_mem hm ht (B':=nx+1) (by omega) hst (updR_one (e:=.box u (Eng.splice bs off as)) ⟨by omega,u,_,hu,rfl,(splice_ok g3 hn off).mono fun _ _=>RC.move hst (by omega) fun _ _=>rfl⟩) undef_rv (KeysR.consE lv sl KeysR.nil),h⟩
    simp only[storeA,hv,g1,beq_self]
    rw[if_pos hz,if_pos (by rw[←g3.length];exact hl)]
   ·cases h
  ·rename_i vv t l he
   split at h
   ·rename_i new' ks hb hf
    simp only[Bool.and_eq_true] at hb
    obtain⟨hv1,hl⟩:=hb
    have hv1:=Nat.eq_of_beq_eq_true hv1
    have hl:=Nat.le_of_ble_eq_true hl
    subst hv1
    split at h
    ·cases h
    ·rename_i hk
     obtain⟨x,hx,h⟩:=bind_some h
     obtain⟨y,hy,h⟩:=optK_some h
     obtain⟨e,g1,_,u',g2,rfl⟩:=hm.ents _ _ _ he
     rw[hu] at g2;injection g2 with g2;subst g2
     obtain⟨ds,g3,g4⟩:=frz_ok hm hf hn
     have hy:=packE_ok hy (cellDs_splice (cellDs_cellsT t x) g4 off)
     have hrow:rowOf s2.mem lv sl vv=some ⟨t,l⟩:=rowOf_iff.2 he
     have hst:Stab B s2.mem (updM s2.mem (frees2 ks++[(lv,sl,some (.row vv t (l.set i y)))])):=stab_new (.inr ⟨_,hrow,by simp⟩)
     refine⟨_,_,?_,.of_mem hm ht (B':=nx+1) (by omega) hst ((updR_frees (m:=s.mem)).append (updR_one (e:=.row u (encL t (l.set i y))) ⟨by omega,u,hu,rfl⟩)) undef_rv (KeysR.consE lv sl (KeysR.keysE ks)),h⟩
     have hg:(encL t l)[i]?=some (encs t x):=by rw[encL_get,hx];rfl
     simp only[storeA,hv,g1,beq_self,hg,g3]
     rw[if_pos hz,if_pos ⟨by rw[encs_length];exact hl,hasKey_false hk⟩,hy]
     simp[encL,List.map_set]
   ·cases h
  ·cases h
  ·cases h
 ·cases h
omit hnx in
include hsl in
theorem does_store {sz:Nat} {x v:Opd} (h:run2 E wk ctx s2 row dst nx (.store sz x v) K=some r):Does ρ B (nx+1) s2 s (.store sz x v) row dst p K r:=by
 simp only[run2] at h
 obtain⟨pc,hx,h⟩:=cellK_some h
 obtain⟨new,hn,h⟩:=optK_some h
 obtain⟨w,hw,h1⟩:=opt_bind hn
 obtain⟨as,g1,g2⟩:=cells_ok h1 (ev2_ok hsl hw)
 obtain⟨E',e,h2,h3,h4⟩:=storeK_ok hm ht hB h (ev2_ok hsl hx) g1 g2
 exact⟨E',e,fun _ _=>by simp only[AOp.run,h2,Option.map_some],h3,h4⟩
end
end Go.Sym
