/- The machine over typed data: operations on the memory. -/
import Derived.Test.YtokjmkblnafppaaGreatDoorSymE
set_option linter.unusedVariables false
set_option linter.unusedSimpArgs false
namespace Go.Sym
open Go Go.bI
section
variable {α : Type} {ρ : bG} {B B':Nat} {s2:S2} {s:St} {op:bM} {row dst p nx:Nat} {K:gi→Option α} {r : α} {E:aA} {wk:Wk} {ctx:Nat}
theorem mR:∀ (a b:List (Nat×Nat×Option E2)) (m:List (Tr E2)),eN m (a++b)=eN (eN m a) b
 |[],_,_=>rfl
 |(lv,sl,e) :: r,b,m=>by simp only[List.cons_append,eN,mR r b]
theorem pG {m:List (Tr E2)} {lv sl cl cX af:Nat} {r:SL} (h:rowOf (BC m lv sl none) cl cX af=some r):rowOf m cl cX af=some r:=by
 have:=cy h
 rw[jA] at this
 split at this
 ·cases this
 ·exact fm.2 this
theorem kW:∀ {ks:List (Nat×Nat)} {m:List (Tr E2)} {lv sl af:Nat} {r:SL},rowOf (eN m (jQ ks)) lv sl af=some r→rowOf m lv sl af=some r
 |[],_,_,_,_,_,h=>h
 |(a,b) :: ks,m,_,_,_,_,h=>pG (kW (ks:=ks) (m:=BC m a b none) h)
theorem oL {m:List (Tr E2)} {ks:List (Nat×Nat)} : eg B m (eN m (jQ ks)):=fun _ _ _ r _ h=>⟨r,kW h,rfl⟩
def Vw (B:Nat) (m:List (Tr E2)) (lv sl:Nat):E2→Prop
 |.box _ _=>True
 |.row af _ l=>B≤af∨∃ r,rowOf m lv sl af=some r∧r.l.length=l.length
 |.set _ _=>True
theorem dA {m:List (Tr E2)} {ks:List (Nat×Nat)} {lv sl:Nat} {e:E2} (h:Vw B m lv sl e):eg B m (eN m (jQ ks++[(lv,sl,some e)])):=by
 intro cl cX af r' hv hr
 rw[mR] at hr
 simp only[eN] at hr
 have:=cy hr
 rw[jA] at this
 split at this
 ·rename_i hc
  obtain⟨rfl,rfl,_⟩:=hc
  injection this with this
  subst this
  rcases h with h|⟨r,h1,h2⟩
  ·omega
  ·exact⟨r,h1,h2⟩
 ·exact⟨r',kW (fm.2 this),rfl⟩
theorem iz {mf:List (Tr E2)} : ∀ {m:List (Tr bH)} {ks:List (Nat×Nat)},az (LF ρ B mf) (jQ ks) (dy m ks)
 |_,[]=>trivial
 |m,k :: ks=>⟨⟨rfl,rfl,fun _ h=>by cases h⟩,iz (m:=m) (ks:=ks)⟩
theorem dB {mf:List (Tr E2)} {lv sl:Nat} {e2:E2} {e:bH} (h:RE ρ B mf e2 e):az (LF ρ B mf) [(lv,sl,some e2)] [(lv,sl,some e)]:=
 ⟨⟨rfl,rfl,fun x hx=>by injection hx with hx;subst hx;exact⟨e,rfl,h⟩⟩,trivial⟩
theorem Cv {mf:List (Tr E2)} : ∀ {Ey:List (Nat×Nat×Option E2)} {us:List (Nat×Nat×Option bH)},az (LF ρ B mf) Ey us→aU ρ (Ey.map fun u=>cg u.1 u.2.1) (us.map fun u=>cg u.1 u.2.1)
 |[],[],_=>aU.nil
 |(a,b,c) :: r2,(a',b',c') :: r,h=>by
  obtain⟨⟨h1,h2,_⟩,h4⟩:=h
  simp only at h1 h2
  subst h1 h2
  exact aU.iw _ _ (Cv h4)
 |[],_ :: _,h=>h.elim
 |_ :: _,[],h=>h.elim
theorem aU.Ah {a b:List (Nat×Nat×Nat)} {v u:Nat} (hu : ρ v=some u) (h:aU ρ a b):aU ρ (jF v :: a) (jF u :: b):=by
 intro x hx
 rcases List.mem_cons.1 hx with rfl|hx
 ·exact⟨_,List.mem_cons_self,.inr ⟨v,u,rfl,rfl,hu⟩⟩
 ·obtain⟨y,h1,h2⟩:=h x hx;exact⟨y,List.mem_cons_of_mem _ h1,h2⟩
theorem aU.skip {a b:List (Nat×Nat×Nat)} {k:Nat×Nat×Nat} (h:aU ρ a b):aU ρ (k :: a) b:=fun x hx=>by
 obtain⟨y,h1,h2⟩:=h x hx;exact⟨y,List.mem_cons_of_mem _ h1,h2⟩
theorem mj.fF (hm:MR ρ B s2.mem s.mem) (ht:TR ρ B s2.aE s.aE) (hB:B≤B') {Ey:List (Nat×Nat×Option E2)} {us:List (Nat×Nat×Option bH)} {v:V2} {a:AV} {NR rd:List (Nat×Nat×Nat)}
  (hst:eg B s2.mem (eN s2.mem Ey)) (hu:az (LF ρ B' (eN s2.mem Ey)) Ey us) (hv:RV ρ B' (eN s2.mem Ey) v a) (hr:aU ρ NR rd) :
  mj ρ B B' s2 s { val:=v,cK:=Ey,cx:=[],rd:=NR } { val:=a,cK:=us,cx:=[],rd:=rd }:=
 ⟨hv, hm.cK hB hst hu, ht.up hB, hst, hr, by
  unfold DK.wr eX.wr
  exact (Cv hu).append aU.nil⟩
theorem kX {m:List (Tr E2)} : RV ρ B m (.gZ []) jr:=⟨[],rfl,trivial⟩
variable (hm:MR ρ B s2.mem s.mem) (ht:TR ρ B s2.aE s.aE) (bV:tw ρ B s2.mem s2.slots s.slots) (hB:B≤nx) (eE : ρ nx=some p)
include hm ht hB eE
theorem Cw {cs:List Cell} {aK:List AV} (hc:az (RC ρ B s2.mem) cs aK)
  (hrun:∀ call sh,op.run call sh s row dst p=some (.bS { val:=.ptr (s.mem.length-1) dst p 0 0,cK:=[(s.mem.length-1,dst,some (.box p aK))],cx:=[],rd:=[] }))
  (h:K (.bS { val:=.c (.ptr (s2.mem.length-1) dst nx 0 0),cK:=[(s2.mem.length-1,dst,some (.box nx cs))],cx:=[],rd:=[] })=some r):dx ρ B (nx+1) s2 s op row dst p K r:=by
 have hst:eg B s2.mem (eN s2.mem [(s2.mem.length-1,dst,some (.box nx cs))]):=dA (ks:=[]) (e:=.box nx cs) trivial
 rw[hm.len] at h hst
 refine⟨_,_,hrun,.fF hm ht (by omega) hst (dB ⟨by omega,p,aK,eE,rfl,hc.mono fun _ _=>RC.move hst (by omega) fun _ _=>rfl⟩) (v:=.c (.ptr (s.mem.length-1) dst nx 0 0)) ⟨by omega,p,eE,rfl⟩ aU.nil,h⟩
theorem Iz {z:List AV} (h:bP E wk ctx s2 row dst nx (.alloc z) K=some r):dx ρ B (nx+1) s2 s (.alloc z) row dst p K r:=by
 simp only[bP] at h
 obtain⟨cs,hc,h⟩:=au h
 exact Cw hm ht hB eE (uE hc) (fun _ _=>rfl) h
include bV in
theorem NY {x:bR} (h:bP E wk ctx s2 row dst nx (.box x) K=some r):dx ρ B (nx+1) s2 s (.box x) row dst p K r:=by
 simp only[bP] at h
 obtain⟨cs,hc,h⟩:=au h
 obtain⟨v,hv,h1⟩:=aT hc
 obtain⟨aK,g1,g2⟩:=uF h1 (bg bV hv)
 exact Cw hm ht hB eE g2 (fun _ _=>by simp only[bM.run,g1,Option.map_some]) h
omit eE hB ht in
theorem FU {sz:Nat} {pc:Cell} {a:AV} {K:List Cell→Option α} (h:J5 s2.mem sz pc K=some r) (hp:RC ρ B s2.mem pc a):∃ cs aK,pq s.mem sz a=some aK∧az (RC ρ B s2.mem) cs aK∧K cs=some r:=by
 unfold J5 at h
 split at h
 ·rename_i lv sl af i off
  obtain⟨hv,u,hu,rfl⟩:=hp
  split at h
  ·rename_i v cs he
   split at h
   ·rename_i hb
    simp only[Bool.and_eq_true] at hb
    obtain⟨⟨DW,hi⟩,hl⟩:=hb
    have DW:=Nat.eq_of_beq_eq_true DW
    have hi:=Nat.eq_of_beq_eq_true hi
    have hl:=Nat.le_of_ble_eq_true hl
    subst DW hi
    obtain⟨e,g1,_,u',aK,g2,rfl,g3⟩:=hm.ec _ _ _ he
    rw[hu] at g2;injection g2 with g2;subst g2
    refine⟨_,(aK.drop off).take sz,?_,(g3.drop off).take sz,h⟩
    simp only[pq,g1,kU]
    rw[if_pos (by rw[←g3.length];exact hl)]
   ·cases h
  ·rename_i v t l he
   split at h
   ·rename_i hb
    simp only[Bool.and_eq_true] at hb
    obtain⟨DW,hl⟩:=hb
    have DW:=Nat.eq_of_beq_eq_true DW
    have hl:=Nat.le_of_ble_eq_true hl
    subst DW
    obtain⟨x,hx,h⟩:=bind_some h
    obtain⟨e,g1,_,u',g2,rfl⟩:=hm.ec _ _ _ he
    rw[hu] at g2;injection g2 with g2;subst g2
    refine⟨_,(((ef t x).map .d).drop off).take sz,?_,((ke t x).drop off).take sz,h⟩
    have:(bx t l)[i]?=some (ef t x):=by rw[Ab,hx];rfl
    simp only[pq,g1,kU,this]
    rw[if_pos (by rw[dQ];exact hl)]
    simp[List.map_take,List.map_drop]
   ·cases h
  ·cases h
  ·cases h
 ·rename_i t x off
  split at h
  ·rename_i hl
   have hl:=Nat.le_of_ble_eq_true hl
   have e:a=_:=hp
   refine⟨_,(((ef t x).map .d).drop off).take sz,?_,((ke t x).drop off).take sz,h⟩
   rw[e]
   simp only[pq]
   rw[if_pos (by rw[dQ];exact hl)]
   simp[List.map_take,List.map_drop]
  ·cases h
 ·cases h
omit eE in
include bV in
theorem LP {sz:Nat} {agg:Bool} {x:bR} (h:bP E wk ctx s2 row dst nx (.load sz agg x) K=some r):dx ρ B (nx+1) s2 s (.load sz agg x) row dst p K r:=by
 simp only[bP] at h
 obtain⟨pc,hx,h⟩:=cj h
 have hx:=bg bV hx
 obtain⟨cs,aK,g1,g2,h⟩:=FU hm h hx
 obtain⟨v,hv,h⟩:=au h
 obtain⟨a,g3,g4⟩:=Aa hv g2
 exact⟨_,_,fun _ _=>by simp only[bM.run,g1,g3,Option.bind_some,Option.map_some],.vD hm ht (by omega) g4 (rA hx),h⟩
omit hm ht hB eE in
theorem uH {ks:List (Nat×Nat)} {lv sl:Nat} (h:zT ks lv sl=false):¬(lv,sl)∈ks:=by
 intro hk
 have:zT ks lv sl=true:=by
  unfold zT
  rw[List.any_eq_true]
  exact⟨_,hk,by simp⟩
 rw[h] at this
 cases this
omit hm ht hB eE in
theorem nc:∀ (t:Ty) (x:t.den),bO (ij t x)=some (ef t x)
 |.val,v=>by
  cases v
  simp[ij,bO,qo,ef,Im,n7.kind,n7.int,n7.text,n7.list,n7.cut,bx,nO]
 |.int _,_=>rfl
 |.bool,_=>rfl
 |.str,_=>rfl
 |.sl _,_=>rfl
 |.unit,_=>rfl
 |.prod a b,x=>kH (nc a x.1) (nc b x.2)
 |.sum _ _,_=>rfl
omit hm ht hB eE in
theorem ng:∀ {cs:List Cell} {ds:List D},bO cs=some ds→ds.length=cs.length
 |[],ds,h=>by simp only[bO,Option.some.injEq] at h;subst h;rfl
 |c :: r,ds,h=>by
  obtain⟨x,xs,h1,h2,rfl⟩:=fZ h
  simp[ng h2]
omit hm ht hB eE in
theorem qt:∀ {cs:List Cell} {ds:List D} (n:Nat),bO cs=some ds→bO (cs.take n)=some (ds.take n)
 |_,_,0,_=>by simp[bO]
 |[],ds,n+1,h=>by simp only[bO,Option.some.injEq] at h;subst h;rfl
 |c :: r,ds,n+1,h=>by
  obtain⟨x,xs,h1,h2,rfl⟩:=fZ h
  simp only[List.take_succ_cons,bO,h1,qt n h2]
omit hm ht hB eE in
theorem qu:∀ {cs:List Cell} {ds:List D} (n:Nat),bO cs=some ds→bO (cs.drop n)=some (ds.drop n)
 |_,_,0,h=>by simpa using h
 |[],ds,n+1,h=>by simp only[bO,Option.some.injEq] at h;subst h;rfl
 |c :: r,ds,n+1,h=>by
  obtain⟨x,xs,h1,h2,rfl⟩:=fZ h
  simpa using qu n h2
omit hm ht hB eE in
theorem BG {cs new:List Cell} {ds ds':List D} (h:bO cs=some ds) (h':bO new=some ds') (off:Nat):bO (bI.splice cs off new)=some (bI.splice ds off ds'):=by
 unfold bI.splice
 rw[ng h']
 exact kH (kH (qt off h) h') (qu _ h)
omit eE in
theorem LQ {sz:Nat} {pc:Cell} {new:List Cell} {a v:AV} {aK:List AV} (h:Ip s2.mem sz pc new K=some r) (hp:RC ρ B s2.mem pc a) (hv:cellsOf v=some aK) (hn:az (RC ρ B s2.mem) new aK) :
  ∃ E e,oh s.mem sz a v=some e∧mj ρ B (nx+1) s2 s E e∧K (.bS E)=some r:=by
 unfold Ip at h
 split at h
 ·rename_i lv sl af i off hz
  have hz:=Nat.eq_of_beq_eq_true hz
  rw[hn.length] at hz
  obtain⟨Bw,u,hu,rfl⟩:=hp
  split at h
  ·rename_i vv cs he
   split at h
   ·rename_i hb
    simp only[Bool.and_eq_true] at hb
    obtain⟨⟨DW,hi⟩,hl⟩:=hb
    have DW:=Nat.eq_of_beq_eq_true DW
    have hi:=Nat.eq_of_beq_eq_true hi
    have hl:=Nat.le_of_ble_eq_true hl
    subst DW hi
    obtain⟨e,g1,_,u',bs,g2,rfl,g3⟩:=hm.ec _ _ _ he
    rw[hu] at g2;injection g2 with g2;subst g2
    have hst:eg B s2.mem (eN s2.mem [(lv,sl,some (.box vv (bI.splice cs off new)))]):=dA (ks:=[]) (e:=.box _ _) trivial
    refine⟨_,_,?_,.fF hm ht (B':=nx+1) (by omega) hst (dB (e:=.box u (bI.splice bs off aK)) ⟨by omega,u,_,hu,rfl,(vE g3 hn off).mono fun _ _=>RC.move hst (by omega) fun _ _=>rfl⟩) kX (aU.iw lv sl aU.nil),h⟩
    simp only[oh,hv,g1,kU]
    rw[if_pos hz,if_pos (by rw[←g3.length];exact hl)]
   ·cases h
  ·rename_i vv t l he
   split at h
   ·rename_i new' ks hb hf
    simp only[Bool.and_eq_true] at hb
    obtain⟨DW,hl⟩:=hb
    have DW:=Nat.eq_of_beq_eq_true DW
    have hl:=Nat.le_of_ble_eq_true hl
    subst DW
    split at h
    ·cases h
    ·rename_i hk
     obtain⟨x,hx,h⟩:=bind_some h
     obtain⟨y,hy,h⟩:=au h
     obtain⟨e,g1,_,u',g2,rfl⟩:=hm.ec _ _ _ he
     rw[hu] at g2;injection g2 with g2;subst g2
     obtain⟨ds,g3,g4⟩:=It hm hf hn
     have hy:=nP hy (BG (nc t x) g4 off)
     have hrow:rowOf s2.mem lv sl vv=some ⟨t,l⟩:=fm.2 he
     have hst:eg B s2.mem (eN s2.mem (jQ ks++[(lv,sl,some (.row vv t (l.set i y)))])):=dA (.inr ⟨_,hrow,by simp⟩)
     refine⟨_,_,?_,.fF hm ht (B':=nx+1) (by omega) hst ((iz (m:=s.mem)).append (dB (e:=.row u (bx t (l.set i y))) ⟨by omega,u,hu,rfl⟩)) kX (aU.iw lv sl (aU.gS ks)),h⟩
     have hg:(bx t l)[i]?=some (ef t x):=by rw[Ab,hx];rfl
     simp only[oh,hv,g1,kU,hg,g3]
     rw[if_pos hz,if_pos ⟨by rw[dQ];exact hl,uH hk⟩,hy]
     simp[bx,List.map_set]
   ·cases h
  ·cases h
  ·cases h
 ·cases h
omit eE in
include bV in
theorem IA {sz:Nat} {x v:bR} (h:bP E wk ctx s2 row dst nx (.store sz x v) K=some r):dx ρ B (nx+1) s2 s (.store sz x v) row dst p K r:=by
 simp only[bP] at h
 obtain⟨pc,hx,h⟩:=cj h
 obtain⟨new,hn,h⟩:=au h
 obtain⟨w,hw,h1⟩:=aT hn
 obtain⟨aK,g1,g2⟩:=uF h1 (bg bV hw)
 obtain⟨E',e,h2,h3,h4⟩:=LQ hm ht hB h (bg bV hx) g1 g2
 exact⟨E',e,fun _ _=>by simp only[bM.run,h2,Option.map_some],h3,h4⟩
end
end Go.Sym
