/- The machine over typed data: slices that are made and that grow. -/
import Derived.Test.YtlfhlggkbcncoaaSymF
namespace Go.Sym
open Go Go.Eng
section
variable {α : Type} {ρ : VMap} {B B':Nat} {s2:S2} {s:St} {op:AOp} {row dst p nx:Nat} {K:Res2→Option α} {r : α} {E:SEnv} {wk:Wk} {ctx:Nat}
theorem TR.fresh {t2 t:Tr Unit} (h:TR ρ B t2 t) (hB:B≤nx) (hnx : ρ nx=some p):TR ρ (nx+1) (applyTip t2 [(nx,true)]) (applyTip t [(p,true)]):=by
 intro v hv
 simp only[applyTip,if_true] at hv ⊢
 rw[Tr.get_set] at hv
 split at hv
 ·rename_i e; subst e
  refine⟨by omega,fun u hu=>?_⟩
  rw[hnx] at hu;injection hu with hu;subst hu
  rw[Tr.get_set,if_pos rfl]
 ·obtain ⟨h1, h2⟩ := h v hv
  refine⟨by omega,fun u hu=>?_⟩
  rw[Tr.get_set]
  split
  ·rfl
  ·exact h2 u hu
theorem TR.drop2 {t2 t:Tr Unit} (h:TR ρ B t2 t) (v:Nat):TR ρ B (t2.set v none) t:=by
 intro v' hv
 rw[Tr.get_set] at hv
 split at hv
 ·cases hv
 ·exact h v' hv
theorem TR.drop {t2 t:Tr Unit} (h:TR ρ B t2 t) (hinj:∀ v v' u,ρ v=some u→ρ v'=some u→v=v') {v u:Nat} (hu : ρ v=some u):TR ρ B (t2.set v none) (t.set u none):=by
 intro v' hv
 rw[Tr.get_set] at hv
 split at hv
 ·cases hv
 ·rename_i hne
  refine⟨(h v' hv).1,fun u' hu'=>?_⟩
  rw[Tr.get_set]
  split
  ·rename_i e;subst e;exact absurd (hinj _ _ _ hu hu') hne
  ·exact (h v' hv).2 u' hu'
theorem cast_enc {a t:Ty} {l:List a.den} {l':List t.den} (h:castL a t l=some l'):encL a l=encL t l'∧l.length=l'.length:=by
 obtain⟨e,he⟩:=castL_eq h
 subst e
 simp only at he
 subst he
 exact⟨rfl,rfl⟩
theorem room_true {n b:Nat} (h:room n b=true):n≤maxLenA∧n*b≤roomA:=by simpa[room] using h
theorem newsK_els {m:List (Tr E2)} {mm:List (Tr Ent)} (hm:MR ρ B m mm) {x:Cell} {a:AV} {e:Option Ty} {K:SL→Option α} (h:newsK m x e K=some r) (hx:RC ρ B m x a) (hne:∀ b,x≠.str b):∃ els,elsOf mm a=some els:=by
 unfold newsK at h
 split at h
 ·exact⟨_,(els_sl hx).1⟩
 ·exact⟨_,(els_nil hx).1⟩
 ·obtain ⟨r', hr, h⟩ := optK_some h
  exact⟨_,els_ref hm hx hr⟩
 ·obtain ⟨r', hr, h⟩ := optK_some h
  have q:=chk_some h
  clear h
  obtain⟨hl,h⟩:=q
  exact⟨_,els_refp hm hx hr (of_decide_eq_true hl)⟩
 ·exact absurd rfl (hne _)
 ·cases h
variable (hm:MR ρ B s2.mem s.mem) (ht:TR ρ B s2.tips s.tips) (hsl:SlR ρ B s2.mem s2.slots s.slots) (hB:B≤nx) (hnx : ρ nx=some p) (hinj:∀ v v' u,ρ v=some u→ρ v'=some u→v=v')
include hm ht hB hnx
omit ht in
theorem EffOK.of_tip {t:Ty} {l:List t.den} {els:List (List D)} {rd2 rd:List (Nat×Nat×Nat)} {tp2 tp:List (Nat×Bool)} (he:els=encL t l) (hr:KeysR ρ rd2 rd) (htp:TR ρ (nx+1) (applyTip s2.tips tp2) (applyTip s.tips tp)) (hw:KeysR ρ (tp2.map fun u=>keyT u.1) (tp.map fun u=>keyT u.1)) :
  EffOK ρ B (nx+1) s2 s { val:=.c (.sl t l (.app nx)),upd:=[],tip:=tp2,rd:=rd2 } { val:=.own els (.tip p t.size),upd:=[],tip:=tp,rd:=rd }:=by
 subst he
 exact⟨⟨by omega,.inr ⟨p,hnx,rfl⟩⟩,hm.mono (by omega),htp,Stab.refl _ _,hr,by simpa[Eff2.wr,Eff.wr] using hw⟩
theorem EffOK.of_row {t:Ty} {l:List t.den} {els:List (List D)} {n lv sl:Nat} {ks:List (Nat×Nat)} {rd2 rd:List (Nat×Nat×Nat)} (he:els=encL t l) (hn:n=l.length) (hr:KeysR ρ rd2 rd) :
  EffOK ρ B (nx+1) s2 s { val:=.c (.ref lv sl nx t),upd:=frees2 ks++[(lv,sl,some (.row nx t l))],tip:=[],rd:=rd2 } { val:=.ref lv sl p 0 n t.size,upd:=frees s.mem ks++[(lv,sl,some (.row p els))],tip:=[],rd:=rd }:=by
 subst he hn
 refine .of_mem hm ht (by omega) (stab_new (.inl hB)) (updR_frees.append (updR_one ⟨by omega,p,hnx,rfl⟩)) ⟨by omega,p,l.length,hnx,rfl,fun r' hr'=>?_⟩ hr
 rw[updM_append] at hr'
 simp only[updM] at hr'
 have:=rowOf_some hr'
 rw[mget_mset] at this
 split at this
 ·injection this with this
  injection this with _ h1 h2
  obtain⟨t',l'⟩:=r'
  simp only at h1 h2
  subst h1
  cases h2
  rfl
 ·rename_i hc
  have h1:=rowOf_frees (rowOf_iff.2 this)
  obtain⟨e,_,hlt,_⟩:=hm.ents _ _ _ (rowOf_some h1)
  omega
include hinj in
theorem appK_ok {rowb:Bool} {lv sl sz bytes:Nat} {x y:Cell} {a b:AV} {e:Option Ty} (h:appK s2 rowb lv sl nx sz bytes x y e K=some r) (hx:RC ρ B s2.mem x a) (hy:RC ρ B s2.mem y b) :
  ∃ E e,appendA s rowb lv sl p sz bytes a b=some e∧EffOK ρ B (nx+1) s2 s E e∧K (.eff E)=some r:=by
 unfold appK at h
 have hky:=keyC_ok hy
 split at h
 ·obtain ⟨n, hn, h⟩ := newsK_ok hm h hy
  split at h
  ·rename_i hz
   have hz:=Nat.eq_of_beq_eq_true hz
   have q:=chk_some h
   clear h
   obtain⟨hr,h⟩:=q
   have hr:=room_true hr
   cases hx
   split at h
   ·refine ⟨_, _, ?_, .of_tip hm hB hnx (l := n.l) (els := [] ++ encL n.t n.l) rfl hky (ht.fresh hB hnx) (KeysR.consT hnx KeysR.nil), h⟩
    simp only[appendA,←hz,hn,encL_all,if_true,List.all_nil,List.length_nil,Nat.zero_add,encL_length]
    rw[if_pos ⟨trivial,hr.1,hr.2⟩]
   ·refine ⟨_, _, ?_, .of_row hm ht hB hnx (ks := []) (els := [] ++ encL n.t n.l) rfl rfl hky, h⟩
    simp only[appendA,←hz,hn,encL_all,if_true,List.all_nil,List.length_nil,Nat.zero_add,encL_length]
    rw[if_pos ⟨trivial,hr.1,hr.2⟩]
    simp[frees]
  ·cases h
 ·rename_i t l
  have q:=newsK_ok hm h hy
  clear h
  obtain⟨n,hn,h⟩:=q
  split at h
  ·rename_i news hz hc
   have hz:=Nat.eq_of_beq_eq_true hz
   obtain⟨hc,_⟩:=cast_enc hc
   rw[hc] at hn
   have q:=chk_some h
   clear h
   obtain⟨hr,h⟩:=q
   have hr:=room_true hr
   cases hx
   split at h
   ·refine ⟨_, _, ?_, .of_tip hm hB hnx (l := l ++ news) (els := encL t l ++ encL t news) (encL_append ..).symm hky (ht.fresh hB hnx) (KeysR.consT hnx KeysR.nil), h⟩
    simp only[appendA,←hz,hn,encL_all,if_true,encL_length]
    rw[if_pos ⟨trivial,hr.1,hr.2⟩]
   ·obtain ⟨hne, h⟩ := chk_some h
    refine⟨_,_,?_,.of_row hm ht hB hnx (ks:=[]) (l:=l++news) (n:=l.length+news.length) (els:=encL t l++encL t news) (encL_append ..).symm (by simp) hky,h⟩
    simp only[appendA,←hz,hn,encL_all,if_true,encL_length]
    rw[if_pos ⟨trivial,hr.1,hr.2⟩,if_neg (by
     intro hc
     have h1:l.isEmpty=false:=by simpa[encL] using hc.1
     have h2:news.isEmpty=true:=by simpa[encL] using hc.2
     rw[h1,h2] at hne
     cases hne)]
    simp[frees]
  ·cases h
 ·rename_i t l v
  have q:=newsK_ok hm h hy
  clear h
  obtain⟨n,hn,h⟩:=q
  cases hz:Nat.beq t.size sz with
  |false=>simp[hz] at h
  |true=>
  cases hc:castL n.t t n.l with
  |none=>simp[hz,hc] at h
  |some news=>
  cases rowb with
  |true=>simp[hz,hc] at h
  |false=>
  cases htip:s2.tips.get? v with
  |none=>simp[hz,hc,htip] at h
  |some un=>
  simp only[hz,hc,htip] at h
  ·have hz := Nat.eq_of_beq_eq_true hz
   obtain⟨hc,_⟩:=cast_enc hc
   rw[hc] at hn
   have q:=chk_some h
   clear h
   obtain⟨hr,h⟩:=q
   have hr:=room_true hr
   rcases hx with⟨hv,⟨hu,rfl⟩|⟨u,hu,rfl⟩⟩
   ·refine ⟨_, _, ?_, .of_tip hm hB hnx (l := l ++ news) (els := encL t l ++ encL t news) (tp2 := [(v, false), (nx, true)]) (tp := [(p, true)]) (encL_append ..).symm hky.skip (TR.fresh (ht.drop2 v) hB hnx) (KeysR.skip (KeysR.consT hnx KeysR.nil)), h⟩
    simp only[appendA,←hz,hn,encL_all,if_true,encL_length]
    rw[if_pos ⟨trivial,hr.1,hr.2⟩]
   ·refine ⟨_, _, ?_, .of_tip hm hB hnx (l := l ++ news) (els := encL t l ++ encL t news) (tp2 := [(v, false), (nx, true)]) (tp := [(u, false), (p, true)]) (encL_append ..).symm (KeysR.consT hu hky) (TR.fresh (ht.drop hinj hu) hB hnx) (KeysR.consT hu (KeysR.consT hnx KeysR.nil)), h⟩
    have:=(ht v htip).2 u hu
    simp only[appendA,←hz,hn,encL_all,if_true,encL_length]
    rw[if_pos ⟨trivial,trivial,hr.1,hr.2,by rw[this];rfl⟩]
 ·rename_i lv' sl' ver t
  have q:=optK_some h
  clear h
  obtain⟨r',hr',h⟩:=q
  have q:=newsK_ok hm h hy
  clear h
  obtain⟨n,hn,h⟩:=q
  split at h
  ·rename_i l news hz hc1 hc
   have hz:=Nat.eq_of_beq_eq_true hz
   obtain⟨hc,_⟩:=cast_enc hc
   obtain⟨hc1,hc2⟩:=cast_enc hc1
   rw[hc] at hn
   have q:=chk_some h
   clear h
   obtain⟨hr,h⟩:=q
   have hr:=room_true hr
   obtain⟨hv,u,n',hu,rfl,hn'⟩:=hx
   have hn':=hn' _ hr'
   rw[hc2] at hn'
   subst hn'
   have hrow:=(rowOf_ok hm hr' hu).2
   rw[hc1] at hrow
   refine⟨_,_,?_,.of_row hm ht hB hnx (ks:=[]) (l:=l++news) (n:=l.length+news.length) (els:=encL t l++encL t news) (encL_append ..).symm (by simp) (KeysR.consE lv' sl' hky),h⟩
   simp only[appendA,←hz,hn,encL_all,if_true,hrow,encL_length]
   rw[if_pos ⟨trivial,by omega,hr.1,hr.2⟩]
   simp[frees,List.take_of_length_le,encL_length]
  ·cases h
 ·rename_i lv' sl' ver t off len
  have q:=optK_some h
  clear h
  obtain⟨r',hr',h⟩:=q
  have q:=newsK_ok hm h hy
  clear h
  obtain⟨n,hn,h⟩:=q
  split at h
  ·rename_i l news hz hc1 hc
   have hz:=Nat.eq_of_beq_eq_true hz
   obtain⟨hc,_⟩:=cast_enc hc
   obtain⟨hc1,hc2⟩:=cast_enc hc1
   rw[hc] at hn
   have q:=chk_some h
   clear h
   obtain⟨hr,h⟩:=q
   rw[Bool.and_eq_true] at hr
   have hl:=of_decide_eq_true hr.1
   have hr:=room_true hr.2
   obtain⟨hv,u,hu,rfl,_⟩:=hx
   have hrow:=(rowOf_ok hm hr' hu).2
   rw[hc1] at hrow
   refine⟨_,_,?_,.of_row hm ht hB hnx (ks:=[]) (l:=(l.drop off).take len++news) (n:=len+news.length) (els:=((encL t l).drop off).take len++encL t news) (by simp[encL,List.map_take,List.map_drop]) (by simp;omega) (KeysR.consE lv' sl' hky),h⟩
   simp only[appendA,←hz,hn,encL_all,if_true,hrow,encL_length]
   rw[if_pos ⟨trivial,hl,hr.1,hr.2⟩]
   simp[frees]
  ·cases h
 ·cases h
theorem cutK_ok {sz:Nat} {x:Cell} {a:AV} {lo hi:Option Nat} (h:cutK s2.mem sz nx x lo hi K=some r) (hx:RC ρ B s2.mem x a) (l h':Nat) (hl:l=lo.getD 0) (hh:∀ n,hi=some n→h'=n) :
  ∃ E e,cutA s p sz a l (hi.map fun _=>h')=some e∧EffOK ρ B (nx+1) s2 s E e∧K (.eff E)=some r:=by
 have ehi:hi.map (fun _=>h')=hi:=by cases hi with|none=>rfl|some n=>simp[hh n rfl]
 rw[ehi]
 subst hl
 unfold cutK at h
 split at h
 ·rename_i lv sl ver t
  have q:=optK_some h
  clear h
  obtain⟨r',hr',h⟩:=q
  split at h
  ·rename_i l' hz hc1
   have hz:=Nat.eq_of_beq_eq_true hz
   obtain⟨hc1,hc2⟩:=cast_enc hc1
   have q:=chk_some h
   clear h
   obtain⟨hp,h⟩:=q
   have hp':=partOK_true hp
   obtain⟨hv,u,n',hu,rfl,hn'⟩:=hx
   have hn':=hn' _ hr'
   rw[hc2] at hn'
   subst hn'
   have hrow:=(rowOf_ok hm hr' hu).2
   rw[hc1] at hrow
   have he:=encL_part (t:=t) hp
   rw[encL_length] at he
   refine⟨_,_,?_,.of_row hm ht hB hnx (ks:=[]) (l:=partL l' lo hi) (n:=hi.getD l'.length-lo.getD 0) (els:=((encL t l').drop (lo.getD 0)).take (hi.getD l'.length-lo.getD 0)) he.symm ?_ (KeysR.consE lv sl KeysR.nil),h⟩
   ·simp only [cutA, hrow, ← hz]
    rw[if_pos ⟨trivial,hp'.1,hp'.2,by rw[encL_length];omega⟩]
    simp[frees]
   ·rw [partL_eq hp, List.length_take, List.length_drop]
    omega
  ·cases h
 ·cases h
omit hm ht hB hnx in
theorem RC.isRow {m:List (Tr E2)} {c:Cell} {a:AV} (h:RC ρ B m c a):Eng.isRow a=c.isRow:=by
 cases c with
 |nil f=>
  cases f with
  |false=>rcases h with rfl|⟨_,_,rfl⟩<;>rfl
  |true=>cases h;rfl
 |sl t l o=>
  cases o with
  |d=>rcases h with rfl|⟨_,_,rfl⟩<;>rfl
  |bor=>rcases h with rfl|⟨_,rfl⟩<;>rfl
  |full=>cases h;rfl
  |app v=>rcases h.2 with⟨_,rfl⟩|⟨_,_,rfl⟩<;>rfl
 |ref=>obtain⟨_,_,_,_,rfl,_⟩:=h;rfl
 |refp=>obtain⟨_,_,_,rfl,_⟩:=h;rfl
 |ptr=>obtain⟨_,_,_,rfl⟩:=h;rfl
 |bref=>obtain⟨_,_,_,rfl⟩:=h;rfl
 |mp=>obtain⟨_,_,_,rfl⟩:=h;rfl
 |int=>cases h;rfl
 |bool=>cases h;rfl
 |str=>cases h;rfl
 |raw=>cases h;rfl
 |dptr=>cases h;rfl
include hsl in
theorem does_slice {sz:Nat} {x:Opd} {lo hi mx:Option Opd} (h:run2 E wk ctx s2 row dst nx (.slice sz x lo hi mx) K=some r):Does ρ B (nx+1) s2 s (.slice sz x lo hi mx) row dst p K r:=by
 simp only[run2] at h
 have q:=cellK_some h
 clear h
 obtain⟨c,hx,h⟩:=q
 have q:=boundK_ok hsl h
 clear h
 obtain⟨l,el,il,h⟩:=q
 have q:=boundK_ok hsl h
 clear h
 obtain⟨h',eh,ih,h⟩:=q
 have q:=boundK_ok hsl h
 clear h
 obtain⟨k,ek,ik,h⟩:=q
 have e1:hi.map (fun _=>h'.getD 0)=h'.map fun _=>h'.getD 0:=by cases hi<;>cases h'<;>simp_all
 have e2:mx.map (fun _=>k.getD 0)=k.map fun _=>k.getD 0:=by cases mx<;>cases k<;>simp_all
 have hir:=RC.isRow (ev2_ok hsl hx)
 split at h
 ·rename_i hq
  rw[←hir] at hq
  obtain⟨E',e,g1,g2,g3⟩:=cutK_ok hm ht hB hnx h (ev2_ok hsl hx) (l.getD 0) (h'.getD 0) rfl (fun n e=>by rw[e];rfl)
  exact⟨E',e,fun _ _=>by simp only[AOp.run,el,eh,ek,hq,e1,g1,Option.map_some],g2,g3⟩
 ·rename_i hq
  rw[←hir] at hq
  obtain⟨a',c',g1,g2,g3⟩:=sliceK_ok h (ev2_ok hsl hx) (l.getD 0) (h'.getD 0) (k.getD 0) rfl (fun n e=>by rw[e];rfl) (fun n e=>by rw[e];rfl)
  refine .pure hm ht (by omega) (a:=a') (fun _ _=>?_) (v:=.c c') g2 g3
  simp only[AOp.run,el,eh,ek,hq,e1,e2,g1,Option.bind_some]
include hinj hsl in
theorem does_append {sz bytes:Nat} {x y:Opd} (h:run2 E wk ctx s2 row dst nx (.append sz bytes x y) K=some r):Does ρ B (nx+1) s2 s (.append sz bytes x y) row dst p K r:=by
 simp only[run2] at h
 have q:=cellK_some h
 clear h
 obtain⟨a,ha,h⟩:=q
 have q:=cellK_some h
 clear h
 obtain⟨b,hb,h⟩:=q
 rw[hm.len] at h
 obtain⟨E',e,h1,h2,h3⟩:=appK_ok hm ht hB hnx hinj h (ev2_ok hsl ha) (ev2_ok hsl hb)
 exact⟨E',e,fun _ _=>by simp only[AOp.run,h1,Option.map_some],h2,h3⟩
include hinj hsl in
theorem does_appendZ {sz bytes:Nat} {z:List D} {x n:Opd} (h:run2 E wk ctx s2 row dst nx (.appendZ sz bytes z x n) K=some r):Does ρ B (nx+1) s2 s (.appendZ sz bytes z x n) row dst p K r:=by
 simp only[run2] at h
 have q:=cellK_some h
 clear h
 obtain⟨a,ha,h⟩:=q
 have q:=natK_some h
 clear h
 obtain⟨kl,l',hl,hl0,h⟩:=q
 have q:=optK_some h
 clear h
 obtain⟨t,_,h⟩:=q
 have q:=optK_some h
 clear h
 obtain⟨z',hz',h⟩:=q
 obtain⟨zc,hz1,hz2⟩:=opt_bind hz'
 have hze:=packE_ok hz2 (cstDs_ok hz1)
 split at h
 ·rename_i hb
  simp only[Bool.and_eq_true] at hb
  have h1:=Nat.eq_of_beq_eq_true hb.1
  have h2:=Nat.eq_of_beq_eq_true hb.2
  subst h1
  have q:=chk_some h
  clear h
  obtain⟨hr,h⟩:=q
  have hr:=room_true hr
  rw[hm.len] at h
  have hb:RC ρ B s2.mem (.sl t (List.replicate l'.toNat z') .d) (.d (.sl (List.replicate l'.toNat z))):=.inl (by simp[encL,hze])
  obtain⟨E',e,h3,h4,h5⟩:=appK_ok hm ht hB hnx hinj h (ev2_ok hsl ha) hb
  exact⟨E',e,fun _ _=>by
   simp only[AOp.run,natOf_ok (ev2_ok hsl hl) hl0,Option.bind_some]
   rw[if_pos ⟨h2,hr.1,hr.2⟩,h3,Option.map_some],h4,h5⟩
 ·cases h
include hinj hsl in
theorem does_clone {sz bytes:Nat} {x:Opd} (h:run2 E wk ctx s2 row dst nx (.clone sz bytes x) K=some r):Does ρ B (nx+1) s2 s (.clone sz bytes x) row dst p K r:=by
 simp only[run2] at h
 have q:=cellK_some h
 clear h
 obtain⟨b,hb,h⟩:=q
 have hb:=ev2_ok hsl hb
 split at h
 ·cases h
 ·rename_i hne
  rw[hm.len] at h
  have he:∃ els,elsOf s.mem (x.ev s.slots)=some els:=by
   unfold appK at h
   exact newsK_els hm h hb (fun b' e=>hne b' e)
  obtain⟨els,he⟩:=he
  obtain⟨E',e,h1,h2,h3⟩:=appK_ok hm ht hB hnx hinj h (show RC ρ B s2.mem (.nil true) (.own [] .full) from rfl) hb
  exact⟨E',e,fun _ _=>by simp only[AOp.run,he,h1,Option.map_some],h2,h3⟩
omit hnx hm ht hB in
theorem all2_flat {t:Ty} : ∀ l:List t.den,All2 (RC ρ B s2.mem) (l.flatMap (cellsT t)) (((l.map (encs t)).flatten).map .d)
 |[]=>trivial
 |x :: l=>by
  simp only[List.flatMap_cons,List.map_cons,List.flatten_cons,List.map_append]
  exact (cellsT_ok t x).append (all2_flat l)
omit hnx in
include hsl in
theorem does_copy {sz:Nat} {x y:Opd} (h:run2 E wk ctx s2 row dst nx (.copy sz x y) K=some r):Does ρ B (nx+1) s2 s (.copy sz x y) row dst p K r:=by
 simp only[run2] at h
 have q:=cellK_some h
 clear h
 obtain⟨a,ha,h⟩:=q
 have q:=cellK_some h
 clear h
 obtain⟨b,hb,h⟩:=q
 have ha:=ev2_ok hsl ha
 have hb:=ev2_ok hsl hb
 have hky:=keyC_ok hb
 split at h
 ·rename_i lv sl ver t _
  have q:=optK_some h
  clear h
  obtain⟨r',hr',h⟩:=q
  have q:=newsK_ok hm h hb
  clear h
  obtain⟨n,hn,h⟩:=q
  split at h
  ·rename_i l news hz hc1 hc
   have hz:=Nat.eq_of_beq_eq_true hz
   obtain⟨hc,_⟩:=cast_enc hc
   obtain⟨hc1,hc2⟩:=cast_enc hc1
   rw[hc] at hn
   obtain⟨hv,u,n',hu,ea,hn'⟩:=ha
   have hn':=hn' _ hr'
   rw[hc2] at hn'
   subst hn'
   have hrow:=(rowOf_ok hm hr' hu).2
   rw[hc1] at hrow
   have hst:Stab B s2.mem (updM s2.mem [(lv,sl,some (.row ver t (copyL news l)))]):=stab_new (ks:=[]) (.inr ⟨_,hr',by simp[copyL,hc2];omega⟩)
   refine⟨_,_,fun _ _=>?_,.of_mem hm ht (by omega) hst (updR_one (e:=.row u (encL t (copyL news l))) ⟨by omega,u,hu,rfl⟩) (v:=.c (.int .i64 ((min news.length l.length:Nat):Int))) (a:=intA (min news.length l.length)) (show _=_ from rfl) (KeysR.consE lv sl hky),h⟩
   simp only[AOp.run,←hz,ea,hn,hrow,encL_all,encL_length]
   rw[if_pos ⟨trivial,by omega,trivial⟩]
   simp[copyL,Eng.splice,encL,List.map_take,List.map_drop]
  ·cases h
 ·rename_i lv sl ver t off len _
  have q:=optK_some h
  clear h
  obtain⟨r',hr',h⟩:=q
  have q:=newsK_ok hm h hb
  clear h
  obtain⟨n,hn,h⟩:=q
  split at h
  ·rename_i l news hz hc1 hc
   have hz:=Nat.eq_of_beq_eq_true hz
   obtain⟨hc,_⟩:=cast_enc hc
   obtain⟨hc1,hc2⟩:=cast_enc hc1
   rw[hc] at hn
   have q:=chk_some h
   clear h
   obtain⟨hl,h⟩:=q
   have hl:=of_decide_eq_true hl
   obtain⟨hv,u,hu,ea⟩:=ha
   have hrow:=(rowOf_ok hm hr' hu).2
   rw[hc1] at hrow
   have hst:Stab B s2.mem (updM s2.mem [(lv,sl,some (.row ver t (l.take off++(news.take (min news.length len)++l.drop (off+(news.take (min news.length len)).length)))))]):=stab_new (ks:=[]) (.inr ⟨_,hr',by simp[hc2];omega⟩)
   refine⟨_,_,fun _ _=>?_,.of_mem hm ht (by omega) hst (updR_one (e:=.row u (encL t (l.take off++(news.take (min news.length len)++l.drop (off+(news.take (min news.length len)).length))))) ⟨by omega,u,hu,rfl⟩) (v:=.c (.int .i64 ((min news.length len:Nat):Int))) (a:=intA (min news.length len)) (show _=_ from rfl) (KeysR.consE lv sl hky),h⟩
   simp only[AOp.run,←hz,ea,hn,hrow,encL_all,encL_length]
   rw[if_pos ⟨trivial,hl,trivial⟩]
   simp[Eng.splice,encL,List.map_take,List.map_drop]
  ·cases h
 ·rename_i lv sl ver off n sz' _
  obtain⟨hver,u,hu,ea⟩:=ha
  split at h
  ·rename_i v cs he
   have q:=newsK_ok hm h hb
   clear h
   obtain⟨nw,hn,h⟩:=q
   split at h
   ·rename_i hq
    simp only[Bool.and_eq_true] at hq
    obtain⟨⟨⟨hv1,hz1⟩,hl⟩,hz⟩:=hq
    have hv1:=Nat.eq_of_beq_eq_true hv1
    have hz1:=Nat.eq_of_beq_eq_true hz1
    have hl:=Nat.le_of_ble_eq_true hl
    have hz:=Nat.eq_of_beq_eq_true hz
    subst hv1 hz1
    obtain⟨e,g1,_,u',bs,g2,rfl,g3⟩:=hm.ents _ _ _ he
    rw[hu] at g2;injection g2 with g2;subst g2
    have hst:Stab B s2.mem (updM s2.mem [(lv,sl,some (.box v (Eng.splice cs off ((nw.l.take (min nw.l.length n)).flatMap (cellsT nw.t)))))]):=stab_new (ks:=[]) (e:=.box _ _) trivial
    have hcells:All2 (RC ρ B s2.mem) ((nw.l.take (min nw.l.length n)).flatMap (cellsT nw.t)) ((((encL nw.t nw.l).take (min (encL nw.t nw.l).length n)).flatten).map .d):=by
     rw[encL_length]
     unfold encL
     rw[←List.map_take]
     exact all2_flat _
    refine⟨_,_,fun _ _=>?_,.of_mem hm ht (B':=nx+1) (by omega) hst (updR_one (e:=.box u (Eng.splice bs off ((((encL nw.t nw.l).take (min (encL nw.t nw.l).length n)).flatten).map .d))) ⟨by omega,u,_,hu,rfl,(splice_ok g3 hcells off).mono fun _ _=>RC.move hst (by omega) fun _ _=>rfl⟩) (v:=.c (.int .i64 ((min nw.l.length n:Nat):Int))) (a:=intA (min nw.l.length n)) (show _=_ from rfl) (KeysR.consE lv sl hky),h⟩
    have hbox:Eng.boxAt s.mem lv sl u=some bs:=by simp only[Eng.boxAt,g1,beq_self]
    simp only[AOp.run,ea,hn,hbox]
    rw[if_pos ⟨trivial,by rw[←g3.length];exact hl,by rw[←hz];exact encL_all _ _⟩,encL_length]
   ·cases h
  ·cases h
 ·cases h
include hsl in
theorem does_makeSlice {sz bytes:Nat} {z:List D} {l c:Opd} (h:run2 E wk ctx s2 row dst nx (.makeSlice sz bytes z l c) K=some r):Does ρ B (nx+1) s2 s (.makeSlice sz bytes z l c) row dst p K r:=by
 simp only[run2] at h
 have q:=natK_some h
 clear h
 obtain⟨kl,l',hl,hl0,h⟩:=q
 have q:=natK_some h
 clear h
 obtain⟨kc,c',hc,hc0,h⟩:=q
 have q:=optK_some h
 clear h
 obtain⟨t,_,h⟩:=q
 have q:=optK_some h
 clear h
 obtain⟨z',hz',h⟩:=q
 obtain⟨zc,hz1,hz2⟩:=opt_bind hz'
 have hze:=packE_ok hz2 (cstDs_ok hz1)
 split at h
 ·rename_i hb
  simp only[Bool.and_eq_true] at hb
  have h1:=Nat.eq_of_beq_eq_true hb.1
  have h2:=Nat.eq_of_beq_eq_true hb.2
  subst h1
  have q:=chk_some h
  clear h
  obtain⟨hr,h⟩:=q
  rw[Bool.and_eq_true] at hr
  have hle:=of_decide_eq_true hr.1
  have hr:=room_true hr.2
  rw[hm.len] at h
  refine⟨_,_,fun _ _=>?_,.of_row hm ht hB hnx (ks:=[]) (l:=List.replicate l'.toNat z') (n:=l'.toNat) (els:=List.replicate l'.toNat z) (by simp[encL,hze]) (by simp) KeysR.nil,h⟩
  simp only[AOp.run,natOf_ok (ev2_ok hsl hl) hl0,natOf_ok (ev2_ok hsl hc) hc0]
  rw[if_pos ⟨hle,by rw[Nat.mul_comm];exact hr.2,hr.1,h2⟩]
  simp[frees]
 ·cases h
omit hnx in
include hsl in
theorem does_clear {sz:Nat} {z:List D} {x:Opd} (h:run2 E wk ctx s2 row dst nx (.clear sz z x) K=some r):Does ρ B (nx+1) s2 s (.clear sz z x) row dst p K r:=by
 simp only[run2] at h
 have q:=cellK_some h
 clear h
 obtain⟨a,ha,h⟩:=q
 have ha:=ev2_ok hsl ha
 split at h
 ·rename_i lv sl ver t _
  have q:=optK_some h
  clear h
  obtain⟨r',hr',h⟩:=q
  have q:=optK_some h
  clear h
  obtain⟨z',hz',h⟩:=q
  obtain⟨zc,hz1,hz2⟩:=opt_bind hz'
  have hze:=packE_ok hz2 (cstDs_ok hz1)
  split at h
  ·rename_i l hb hc1
   simp only[Bool.and_eq_true] at hb
   have h1:=Nat.eq_of_beq_eq_true hb.1
   have h2:=Nat.eq_of_beq_eq_true hb.2
   obtain⟨hc1,hc2⟩:=cast_enc hc1
   obtain⟨hv,u,n',hu,ea,hn'⟩:=ha
   have hn':=hn' _ hr'
   rw[hc2] at hn'
   subst hn'
   have hrow:=(rowOf_ok hm hr' hu).2
   rw[hc1] at hrow
   have hst:Stab B s2.mem (updM s2.mem [(lv,sl,some (.row ver t (List.replicate l.length z')))]):=stab_new (ks:=[]) (.inr ⟨_,hr',by simp[hc2]⟩)
   refine⟨_,_,fun _ _=>?_,.of_mem hm ht (by omega) hst (updR_one (e:=.row u (encL t (List.replicate l.length z'))) ⟨by omega,u,hu,rfl⟩) undef_rv (KeysR.consE lv sl KeysR.nil),h⟩
   simp only[AOp.run,←h1,ea,hrow,encL_length]
   rw[if_pos ⟨trivial,by omega,by rw[h2,h1]⟩]
   simp[Eng.splice,encL,hze]
  ·cases h
 ·rename_i lv sl ver t off len _
  have q:=optK_some h
  clear h
  obtain⟨r',hr',h⟩:=q
  have q:=optK_some h
  clear h
  obtain⟨z',hz',h⟩:=q
  obtain⟨zc,hz1,hz2⟩:=opt_bind hz'
  have hze:=packE_ok hz2 (cstDs_ok hz1)
  split at h
  ·rename_i l hb hc1
   simp only[Bool.and_eq_true] at hb
   have h1:=Nat.eq_of_beq_eq_true hb.1
   have h2:=Nat.eq_of_beq_eq_true hb.2
   obtain⟨hc1,hc2⟩:=cast_enc hc1
   have q:=chk_some h
   clear h
   obtain⟨hd,h⟩:=q
   have hd:=of_decide_eq_true hd
   obtain⟨hv,u,hu,ea,_⟩:=ha
   have hrow:=(rowOf_ok hm hr' hu).2
   rw[hc1] at hrow
   have hst:Stab B s2.mem (updM s2.mem [(lv,sl,some (.row ver t (l.take off++List.replicate len z'++l.drop (off+len))))]):=stab_new (ks:=[]) (.inr ⟨_,hr',by simp[hc2];omega⟩)
   refine⟨_,_,fun _ _=>?_,.of_mem hm ht (by omega) hst (updR_one (e:=.row u (encL t (l.take off++List.replicate len z'++l.drop (off+len)))) ⟨by omega,u,hu,rfl⟩) undef_rv (KeysR.consE lv sl KeysR.nil),h⟩
   simp only[AOp.run,←h1,ea,hrow,encL_length]
   rw[if_pos ⟨trivial,hd,by rw[h2,h1]⟩]
   simp[Eng.splice,encL,hze,List.map_take,List.map_drop]
  ·cases h
 ·cases h
omit hm ht hB hnx in
theorem intsOf_intsL:∀ l:List Int,intsOf (intsL l)=some l
 |[]=>rfl
 |z :: l=>by
  show (intsOf (intsL l)).map (z :: ·)=_
  rw[intsOf_intsL l]
  rfl
omit hm ht hB hnx in
theorem RV.isRow {m:List (Tr E2)} {v:V2} {a:AV} (h:RV ρ B m v a):Eng.isRow a=v.isRow:=by
 cases v with
 |c c=>exact RC.isRow h
 |agg=>obtain⟨_,rfl,_⟩:=h;rfl
 |clo=>obtain⟨_,rfl,_⟩:=h;rfl
 |tup=>obtain⟨_,rfl,_⟩:=h;rfl
omit hm ht hB hnx in
theorem movA_pure {m:List (Tr E2)} {row lv d nvi:Nat} {v:V2} {a:AV} (h:RV ρ B m v a) (h1:∀ f,v≠.c (.nil f)) (h2:∀ t l o,v≠.c (.sl t l o)):movA row lv d nvi a = { val:=a,upd:=[],tip:=[],rd:=[] }:=by
 unfold movA
 split
 ·rename_i he
  exfalso
  cases v with
  |c x=>
   cases x with
   |nil f=>exact h1 f rfl
   |sl t l o=>exact h2 t l o rfl
   |ref=>obtain⟨_,_,_,_,e,_⟩:=h;cases e
   |refp=>obtain⟨_,_,_,e,_⟩:=h;cases e
   |ptr=>obtain⟨_,_,_,e⟩:=h;cases e
   |bref=>obtain⟨_,_,_,e⟩:=h;cases e
   |mp=>obtain⟨_,_,_,e⟩:=h;cases e
   |int=>cases h
   |bool=>cases h
   |str=>cases h
   |raw=>cases h
   |dptr=>cases h
  |agg=>obtain⟨_,e,_⟩:=h;cases e
  |clo=>obtain⟨_,e,_⟩:=h;cases e
  |tup=>obtain⟨_,e,_⟩:=h;cases e
 ·rfl
include hsl in
theorem does_mov {x:Opd} (h:run2 E wk ctx s2 row dst nx (.mov x) K=some r):Does ρ B (nx+1) s2 s (.mov x) row dst p K r:=by
 simp only[run2] at h
 have q:=optK_some h
 clear h
 obtain⟨v,hv,h⟩:=q
 have hv:=ev2_ok hsl hv
 have hir:=RV.isRow hv
 split at h
 ·rename_i hq
  rw[←hir] at hq
  split at h
  ·rename_i lv sl ver t _
   have q:=optK_some h
   clear h
   obtain⟨r',hr',h⟩:=q
   have q:=optK_some h
   clear h
   obtain⟨l,hl,h⟩:=q
   obtain⟨hc1,hc2⟩:=cast_enc hl
   obtain⟨hver,u,n',hu,ea,hn'⟩:=hv
   have hn':=hn' _ hr'
   rw[hc2] at hn'
   subst hn'
   have hrow:=(rowOf_ok hm hr' hu).2
   rw[hc1] at hrow
   rw[hm.len] at h
   have hst:Stab B s2.mem (updM s2.mem [(lv,sl,none),(s.mem.length-1,dst,some (.row nx t l))]):=stab_new (ks:=[(lv,sl)]) (e:=.row nx t l) (.inl hB)
   refine⟨_,_,fun _ _=>?_,.of_mem hm ht (B':=nx+1) (us2:=[(lv,sl,none),(s.mem.length-1,dst,some (.row nx t l))]) (us:=[(lv,sl,none),(s.mem.length-1,dst,some (.row p (encL t l)))]) (by omega) hst ⟨⟨rfl,rfl,fun _ h=>by cases h⟩,updR_one ⟨Nat.lt_succ_self _,p,hnx,rfl⟩⟩ (v:=.c (.ref (s.mem.length-1) dst nx t)) (a:=.ref (s.mem.length-1) dst p 0 l.length t.size) (show RC _ _ _ (.ref (s.mem.length-1) dst nx t) _ from⟨Nat.lt_succ_self _,p,l.length,hnx,rfl,fun r hr=>?_⟩) (KeysR.consE lv sl KeysR.nil),h⟩
   ·rw [ea] at hq
    simp only[AOp.run,hq,ea,moveA,hrow,Nat.zero_add,encL_length,List.drop_zero]
    rw[show Nat.ble l.length l.length=true from Nat.ble_eq_true_of_le (Nat.le_refl _),←encL_length (t:=t) (l:=l),List.take_length]
    simp[encL_length]
   ·have this := rowOf_some hr
    simp only[updM] at this
    rw[mget_mset] at this
    split at this
    ·injection this with this
     injection this with _ h1 h2
     obtain⟨t',l'⟩:=r
     simp only at h1 h2
     subst h1
     cases h2
     rfl
    ·have h1 := rowOf_mset_none (rowOf_iff.2 this)
     obtain⟨e,_,hlt,_⟩:=hm.ents _ _ _ (rowOf_some h1)
     omega
  ·cases h
 rename_i hq
 rw[←hir] at hq
 split at h
 ·rename_i hq4
  refine .pure hm ht (by omega) (fun _ _=>?_) hv h
  simp only[AOp.run,hq,movA,hq4]
  rfl
 ·rename_i hq4
  split at h
  ·have e : x.ev s.slots = .own [] .full := hv
   have q:=optK_some h
   clear h
   obtain⟨t,_,h⟩:=q
   split at h
   ·rename_i hsz
    have hsz:=Nat.eq_of_beq_eq_true hsz
    rw[hm.len] at h
    refine⟨_,_,fun _ _=>?_,.of_row hm ht hB hnx (ks:=[]) (l:=([]:List t.den)) (n:=0) (els:=[]) rfl rfl KeysR.nil,h⟩
    rw[e] at hq
    simp only[AOp.run,movA,hq,hq4,e,hsz]
    rfl
   ·cases h
  ·cases h
  ·cases h
  ·rename_i h1 h2 h3
   refine .pure hm ht (by omega) (fun _ _=>?_) hv h
   simp only[AOp.run,hq]
   rw[movA_pure hv (fun f hf=>h2 f hf) (fun t l o hf=>h3 t l o hf)]
   rfl
include hsl in
theorem does_compact {x:Opd} (h:run2 E wk ctx s2 row dst nx (.compact x) K=some r):Does ρ B (nx+1) s2 s (.compact x) row dst p K r:=by
 simp only[run2] at h
 have q:=cellK_some h
 clear h
 obtain⟨a,ha,h⟩:=q
 have ha:=ev2_ok hsl ha
 split at h
 ·have e : x.ev s.slots = .own [] .full := ha
  refine .pure hm ht (by omega) (a:=.own [] .full) (fun _ _=>?_) (v:=.c (.nil true)) rfl h
  simp only[AOp.run,compactA,e,Option.map_some]
  rfl
 ·rename_i lv sl ver t _
  have q:=optK_some h
  clear h
  obtain⟨r',hr',h⟩:=q
  split at h
  ·rename_i l hb hc1
   have h1:=Nat.eq_of_beq_eq_true hb
   obtain⟨hc1,hc2⟩:=cast_enc hc1
   have q:=chk_some h
   clear h
   obtain⟨hd,h⟩:=q
   have hd:=of_decide_eq_true hd
   obtain⟨hv,u,n',hu,ea,hn'⟩:=ha
   have hn':=hn' _ hr'
   rw[hc2] at hn'
   subst hn'
   have hrow:=(rowOf_ok hm hr' hu).2
   rw[hc1] at hrow
   refine⟨_,_,fun _ _=>?_,.of_row hm ht hB hnx (ks:=[]) (t:=.int .i64) (l:=compI l) (n:=(compI l).length) (els:=encL (.int .i64) (compI l)) rfl rfl (KeysR.consE lv sl KeysR.nil),h⟩
   have he:encL (.int .i64) l=intsL l:=rfl
   simp only[AOp.run,compactA,ea,hrow,he,intsOf_intsL,Option.bind_some,h1]
   rw[if_pos ⟨trivial,by simp[intsL],trivial,by simpa[intsL] using hd⟩]
   rfl
  ·cases h
 ·cases h
omit hnx in
include hsl in
theorem does_sort {x:Opd} (h:run2 E wk ctx s2 row dst nx (.sort x) K=some r):Does ρ B (nx+1) s2 s (.sort x) row dst p K r:=by
 simp only[run2] at h
 have q:=cellK_some h
 clear h
 obtain⟨a,ha,h⟩:=q
 have ha:=ev2_ok hsl ha
 split at h
 ·have e : x.ev s.slots = .own [] .full := ha
  exact⟨_,_,fun _ _=>by simp only[AOp.run,sortA,e,Option.map_some],.of_mem (us2:=[]) (us:=[]) hm ht (by omega) (Stab.refl _ _) trivial undef_rv KeysR.nil,h⟩
 ·rename_i lv sl ver t _
  have q:=optK_some h
  clear h
  obtain⟨r',hr',h⟩:=q
  split at h
  ·rename_i l hb hc1
   have h1:=Nat.eq_of_beq_eq_true hb
   obtain⟨hc1,hc2⟩:=cast_enc hc1
   have q:=chk_some h
   clear h
   obtain⟨hd,h⟩:=q
   have hd:=of_decide_eq_true hd
   obtain⟨hv,u,n',hu,ea,hn'⟩:=ha
   have hn':=hn' _ hr'
   rw[hc2] at hn'
   subst hn'
   have hrow:=(rowOf_ok hm hr' hu).2
   rw[hc1] at hrow
   have hst:Stab B s2.mem (updM s2.mem [(lv,sl,some (.row ver (.int .i64) (sortI l)))]):=stab_new (ks:=[]) (.inr ⟨_,hr',by rw[hc2];exact (sortI_length l).symm⟩)
   refine⟨_,_,fun _ _=>?_,.of_mem hm ht (by omega) hst (updR_one (e:=.row u (encL (.int .i64) (sortI l))) ⟨by omega,u,hu,rfl⟩) undef_rv (KeysR.consE lv sl KeysR.nil),h⟩
   have he:encL (.int .i64) l=intsL l:=rfl
   simp only[AOp.run,sortA,ea,hrow,he,intsOf_intsL,Option.bind_some,h1]
   rw[if_pos ⟨trivial,by simp[intsL],trivial,by simpa[intsL] using hd⟩]
   rfl
  ·cases h
 ·cases h
include hsl in
theorem does_grow {sz:Nat} {x n:Opd} (h:run2 E wk ctx s2 row dst nx (.grow sz x n) K=some r):Does ρ B (nx+1) s2 s (.grow sz x n) row dst p K r:=by
 simp only[run2] at h
 have q:=cellK_some h
 clear h
 obtain⟨a,ha,h⟩:=q
 have q:=natK_some h
 clear h
 obtain⟨kn,n',hn,hn0,h⟩:=q
 have ha:=ev2_ok hsl ha
 split at h
 ·rename_i t hty _
  split at h
  ·rename_i hz
   have hz:=Nat.eq_of_beq_eq_true hz
   have ea:x.ev s.slots=_:=ha
   refine⟨_,_,fun _ _=>?_,.of_tip hm hB hnx (l:=([]:List t.den)) (els:=[]) rfl KeysR.nil (ht.fresh hB hnx) (KeysR.consT hnx KeysR.nil),h⟩
   simp only[AOp.run,ea,natOf_ok (ev2_ok hsl hn) hn0,hz]
  ·cases h
 ·cases h
omit ht hB hnx in
include hsl in
theorem fillE_ok {sz:Nat} : ∀ {ps:List (Nat×Opd)} {els2 els2':List (List Cell)} {els:List (List D)} {ks:List (Nat×Nat)},fillE s2 sz els2 ps=some (els2',ks)→All2 (fun c d=>cellDs c=some d) els2 els→
  ∃ els',fillD s.mem s.slots sz els ps=some (els',ks)∧All2 (fun c d=>cellDs c=some d) els2' els'
 |[],els2,els2',els,ks,h,ha=>by
  simp only[fillE,Option.some.injEq,Prod.mk.injEq] at h
  obtain⟨rfl,rfl⟩:=h
  exact⟨els,rfl,ha⟩
 | (i, x) :: ps, els2, els2', els, ks, h, ha => by
  simp only[fillE] at h
  split at h
  ·rename_i e k hn
   obtain⟨cs,h1,h2⟩:=opt_bind hn
   obtain⟨v,hv,h3⟩:=opt_bind h1
   obtain⟨as,g1,g2⟩:=cells_ok h3 (ev2_ok hsl hv)
   obtain⟨ds,g3,g4⟩:=frz_ok hm h2 g2
   split at h
   ·rename_i hb
    rw[Bool.and_eq_true] at hb
    have hz:=Nat.eq_of_beq_eq_true hb.1
    have hi:i<els2.length:=by simpa using hb.2
    split at h
    ·rename_i els' ks' h4
     injection h with h;injection h with h5 h6
     subst h5 h6
     have ha':All2 (fun c d=>cellDs c=some d) (els2.set i e) (els.set i ds):=by
      refine .of_get (by simp[ha.length]) fun j c d hc hd=>?_
      rw[List.getElem?_set] at hc hd
      by_cases hij:i=j
      ·subst hij
       rw[if_pos rfl,if_pos hi] at hc
       rw[if_pos rfl,if_pos (by rw[←ha.length];exact hi)] at hd
       injection hc with hc;injection hd with hd
       subst hc hd;exact g4
      ·rw [if_neg hij] at hc hd
       obtain⟨d',g5,g6⟩:=ha.get j c hc
       rw[hd] at g5;injection g5 with g5;subst g5;exact g6
     obtain⟨els1,g5,g6⟩:=fillE_ok h4 ha'
     refine⟨els1,?_,g6⟩
     simp only[fillD,elemD,g1,Option.bind_some,g3]
     rw[if_pos ⟨by rw[cellDs_length g4];exact hz,by rw[←ha.length];exact hi⟩,g5]
    ·cases h
   ·cases h
  ·cases h
omit hm ht hB hnx in
theorem packEs_ok {t:Ty} : ∀ {els2:List (List Cell)} {els:List (List D)} {l:List t.den},packEs t els2=some l→All2 (fun c d=>cellDs c=some d) els2 els→els=encL t l
 |[],[],l,h,_=>by simp only[packEs,Option.some.injEq] at h;subst h;rfl
 | c :: r, d :: ds, l, h, ha => by
  simp only[packEs] at h
  split at h
  ·rename_i x xs h1 h2
   injection h with h;subst h
   rw[packE_ok h1 ha.1,packEs_ok h2 ha.2]
   rfl
  ·cases h
 |[],_ :: _,_,_,h=>h.elim
 |_ :: _,[],_,_,h=>h.elim
omit hm ht hB hnx in
theorem all2_replicate {β γ : Type} {R : β→γ→Prop} {x : β} {y : γ} (h:R x y):∀ n,All2 R (List.replicate n x) (List.replicate n y)
 |0=>trivial
 |n+1=>⟨h,all2_replicate h n⟩
include hsl in
theorem does_buildSlice {sz n : Nat} {z : List D} {ps : List (Nat × Opd)} (h : run2 E wk ctx s2 row dst nx (.buildSlice sz n z ps) K = some r) : Does ρ B (nx + 1) s2 s (.buildSlice sz n z ps) row dst p K r := by
 simp only[run2] at h
 cases hr2:Nat.beq row 2 with
 | true =>
  rw[hr2] at h
  simp only at h
  split at h
  ·cases h
  rename_i hn
  obtain⟨cs,hcs,h⟩:=optK_some h
  obtain⟨zc,hzc,hcs⟩:=opt_bind hcs
  have hrep:∀ k:Nat,All2 (RC ρ B s2.mem) (List.replicate k zc).flatten ((List.replicate k z).flatten.map .d):=by
   intro k
   induction k with
   |zero=>trivial
   |succ k ih=>
    simp only[List.replicate_succ,List.flatten_cons,List.map_append]
    exact (cstDs_rc hzc).append ih
  obtain⟨as,g1,g2⟩:=fill2_ok hsl hcs (hrep n)
  have hst:Stab B s2.mem (updM s2.mem [(s2.mem.length-1,dst,some (.box nx cs))]):=stab_new (ks:=[]) (e:=.box nx cs) trivial
  refine⟨_,_,fun _ _=>?_,.of_mem hm ht (B':=nx+1) (by omega) hst (updR_one (e:=.box p as) ⟨by omega,p,as,hnx,rfl,g2.mono fun _ _=>RC.move hst (by omega) fun _ _=>rfl⟩) (v:=.c (.bref (s2.mem.length-1) dst nx 0 n sz)) (a:=.bref (s2.mem.length-1) dst p 0 n sz) ⟨by omega,p,hnx,rfl⟩ KeysR.nil,h⟩
  simp only[AOp.run,hr2,hn,g1,hm.len,Option.map_some]
 |false=>
 rw[hr2] at h
 simp only at h
 have q:=optK_some h
 clear h
 obtain⟨t,_,h⟩:=q
 have q:=optK_some h
 clear h
 obtain⟨zc,hzc,h⟩:=q
 have q:=optK_some h
 clear h
 obtain⟨⟨els2,ks⟩,hf,h⟩:=q
 obtain⟨els,g1,g2⟩:=fillE_ok hm hsl hf (all2_replicate (R:=fun c d=>cellDs c=some d) (cstDs_ok hzc) n)
 simp only at h
 split at h
 ·rename_i l hz hp
  have hz:=Nat.eq_of_beq_eq_true hz
  have he:=packEs_ok hp g2
  have hlen : n = l.length := by
   have h1:=g2.length
   have h2 : ∀ {ps : List (Nat × Opd)} {a b : List (List Cell)} {ks : List (Nat × Nat)}, fillE s2 sz a ps = some (b, ks) → b.length = a.length := by
    intro ps
    induction ps with
    |nil=>intro a b ks h;simp only[fillE,Option.some.injEq,Prod.mk.injEq] at h;rw[h.1]
    | cons q ps ih =>
     intro a b ks h
     obtain⟨i,x⟩:=q
     simp only[fillE] at h
     split at h
     ·split at h
      ·split at h
       ·rename_i h4
        injection h with h;injection h with h5 h6
        subst h5
        simpa using ih h4
       ·cases h
      ·cases h
     ·cases h
   have:=h2 hf
   rw[List.length_replicate] at this
   rw[←this,h1,he,encL_length]
  split at h
  ·rename_i hrow
   refine⟨_,_,fun _ _=>?_,.of_mem hm ht (by omega) (stab_frees (ks:=ks)) (updR_frees (m:=s.mem)) (v:=.c (.sl t l .full)) (a:=.own els .full) (show _=_ by rw[he]) (KeysR.keysE ks),h⟩
   simp only[AOp.run,hr2,g1,hrow]
  ·rename_i hrow
   split at h
   ·cases h
   ·rename_i hk
    rw[hm.len] at h hk
    refine⟨_,_,fun _ _=>?_,.of_row hm ht hB hnx (ks:=ks) (l:=l) (n:=n) (els:=els) he hlen (KeysR.keysE ks),h⟩
    simp only[AOp.run,hr2,g1,hrow]
    rw[if_neg (hasKey_false hk),hz]
 ·cases h
end
end Go.Sym
