/- A part of the proof: Law12acl7h, Law12acs1, Law12acs2, Law12acac3. -/
import Derived.Test.YthphehfgekjooaaGreatDoorLaw12acl7g
import Derived.KernelRfl
set_option linter.unusedVariables false
set_option linter.unusedSimpArgs false
namespace Go.Proofs.YthphehfgekjooaaGreatDoor
open Go Go.bq Go.Sym
open Classical
theorem afb {n:Nat} {b:List Bool} {o:List Nat} (h:∀ k,O o k<65536):mu n b o≤n*65536:=Ww fun k=>by
 split
 ·exact Nat.le_of_lt (h k)
 ·exact Nat.le_refl _
theorem YM (n k:Nat):O (List.replicate n 0) k=0:=by
 simp only[O,List.getD_eq_getElem?_getD,List.getElem?_replicate]
 split<;>rfl
theorem abr (n:Nat):List.replicate n (0:Int)=cN (List.replicate n 0):=by simp[cN]
noncomputable def ym (l:List Instr) (G:Nat→Nat):List Nat:=(List.range l.length).map fun k=>if Reach l k∧k≠l.length-1 then G k else 0
theorem wV (l:List Instr) (G:Nat→Nat):(ym l G).length=l.length:=by simp[ym]
theorem wW {l:List Instr} {G:Nat→Nat} {k:Nat} (h:k<l.length):O (ym l G) k=if Reach l k∧k≠l.length-1 then G k else 0:=by
 simp[O,List.getD_eq_getElem?_getD,ym,h]
theorem SW {l:List Instr} {G:Nat→Nat} {o:List Nat} (hl:o.length=l.length) (h:∀ k,k<l.length→O o k=if Reach l k∧k≠l.length-1 then G k else 0):o=ym l G:=
 ae7 (by rw[hl,wV]) fun k hk=>by rw[h k (by omega),wW (by omega)]
theorem Lo {N:Nat} {l:List Instr} {P F p s:Nat} (hv:VM l P F p s) (hN:14000000<N) {ws:List Nat} (sH:∀ k,O ws k=wr l k) (hwl:ws.length=l.length) :
  ∃ G o,MU l P F G∧o.length=l.length∧(∀ k,k<l.length→O o k=if Reach l k then G k else 0)∧
   f83.ig N N (l,(p:Int),(List.replicate l.length false).set 0 true,(cN (List.replicate l.length 0)).set 0 (P:Int),cN ws,[(0:Int)])=some (cN o):=by
 have hpos:=hv.v.pos
 have hle:=hv.le
 have hP:sub P F:=hv.PF
 have hO0:∀ k,O ((List.replicate l.length 0).set 0 P) k=if k=0 then P else 0:=fun k=>by
  rw[gJ (by simp;omega),YM]
 have start:Lv l P F ((List.replicate l.length false).set 0 true) ((List.replicate l.length 0).set 0 P):=⟨D0 hv.v,by simp,fun k=>by
   rw[hO0];split
   ·exact hP
   ·exact zero_sub _,by rw[hO0,if_pos rfl];exact lS _,fun k hk=>by
   rw[hO0,if_neg fun e=>hk ((k9 hpos k).2 e)],fun S hS k hk=>by
   rw[(k9 hpos k).1 hk,hO0,if_pos rfl];exact hS.1⟩
 have hmu:∀ b o,Lv l P F b o→mu l.length b o≤13200000:=fun b o h=>by
  have:=afb (n:=l.length) (b:=b) (o:=o) fun k=>hv.lt (h.SV k)
  omega
 obtain⟨⟨b,o⟩,hI,he⟩:=uf (Inv:=fun t q=>LvP l P F t.1 t.2 q∧mu l.length t.1 t.2+q.length≤13200001) (μ:=fun t=>mu l.length t.1 t.2) (g:=fun t=>cN t.2)
  (Lf:=fun k t q=>f83.ig N k (l,(p:Int),t.1,cN t.2,cN ws,cN q))
  (fun k t _=>by rw[show cN []=[] from rfl,f83.ig.eq_2];rfl)
  (fun k t q i ⟨h, hm⟩ => by
   rw[List.length_append,List.length_singleton] at hm
   have hi:T t.1 i:=h.uf i (by simp)
   have Jy:i<l.length:=by rw[←h.lv.TP.len];exact hi.lt
   obtain⟨b',o',r,h1,h2,h3⟩:=I0 (N:=N) hv (by omega) sH hwl h (by omega)
   refine⟨(b',o'),r,⟨h1,by rw[List.length_append];simp only;omega⟩,h2,?_⟩
   have hlen:(cN (q++[i])).length=q.length+1:=by simp[cN]
   have e1:ah (((q.length+1:Nat):Int)-1)=(q.length:Int):=by rw[bn (by omega)];omega
   have e2:(cN (q++[i]))[q.length]?=some (i:Int):=by simp[cN]
   have e3:(cN (q++[i])).take q.length=cN q:=by simp[cN]
   simp only[f83.ig.eq_2,hlen,e1,decide_eq_true (show ((q.length+1:Nat):Int)>0 by omega),av,dD (show q.length<q.length+1 by omega),aj,Int.toNat_natCast,e2,Option.bind_some,
    show decide ((0:Int)≤(q.length:Int))=true by simp,show decide (q.length≤q.length+1)=true by simp,Lj hv.v Jy,e3,h3])
  N ((List.replicate l.length false).set 0 true,(List.replicate l.length 0).set 0 P) [0] ⟨⟨start,fun k hk=>by simp at hk;subst hk;exact (k9 hpos 0).2 rfl,fun i hi=>.inl (by rw[(k9 hpos i).1 hi];simp)⟩,by
   have:=hmu _ _ start
   simp only[List.length_singleton];omega⟩ (by
   have:=hmu _ _ start
   simp only[List.length_singleton];omega)
 obtain⟨⟨h1,h2,h3⟩,_⟩:=hI
 have hsh:∀ i,T b i→∀ k∈nx l i,T b k∧sub (O o k) (O o i ||| wr l i):=fun i hi=>by
  rcases h3 i hi with g|g
  ·simp at g
  ·exact g
 have hall:=h1.TP.all fun i hi k hk=>(hsh i hi k hk).1
 have hT:∀ k,T b k↔Reach l k:=fun k=>by simp only at hall;rw[hall];exact SK hv.v
 refine⟨O o,o,⟨⟨h1.p0,fun i hi k hk=>(hsh i ((hT i).2 hi) k hk).2⟩,h1.SV,fun S hS k hk=>h1.great S hS k ((hT k).2 hk)⟩,h1.len,fun k hk=>?_,by rw[show [(0:Int)]=cN [0] from rfl,BN];exact he⟩
 split
 ·rfl
 ·rename_i hn;exact h1.un k fun h=>hn ((hT k).1 h)
theorem fdiv_pow {a s:Nat} (hs:s≤16):(Int.fdiv (a:Int) (2 ^ min (Int.toNat (s:Int)) 64) != 0)=decide (¬a<2 ^ s):=by
 rw[Int.toNat_natCast,Nat.min_eq_left (by omega)]
 have e:(2:Int) ^ s=((2 ^ s:Nat):Int):=by simp
 have hp:=Nat.one_le_two_pow (n:=s)
 rw[e,Int.fdiv_eq_ediv_of_nonneg _ (Int.natCast_nonneg _),←Int.natCast_ediv]
 by_cases h:a<2 ^ s
 ·rw[Nat.div_eq_of_lt h,decide_eq_false (not_not.2 h)];rfl
 ·rw [decide_eq_true h]
  have:a / 2 ^ s≠0:=fun e=>by
   rw[Nat.div_eq_zero_iff] at e
   rcases e with e|e
   ·omega
   ·exact h e
  generalize a / 2 ^ s=n at this ⊢
  rw[bne_iff_ne]
  omega
theorem Lp {l:List Instr} {i:Nat} {x:Instr} (h:l[i]?=some x):wr l i=SS x:=by simp only[wr,h]
theorem FR {N:Nat} {l:List Instr} (hv:VC l) (hN:500<N) {p s:Nat} (hs:s≤16) :
  if j0 l s then ∃ ws:List Nat,(∀ k,O ws k=wr l k)∧ws.length=l.length∧f83.fM N N (l,(s:Int),l,(l.length:Int),0,(p:Int),cN (List.replicate l.length 0))=some (.inr (l,(p:Int),cN ws))
   else f83.fM N N (l,(s:Int),l,(l.length:Int),0,(p:Int),cN (List.replicate l.length 0))=some (.inl 16):=by
 have hle:=hv.le
 have key := FC (l := l) (Out := fun r => r = .inl 16 ∧ j0 l s = false) (g := fun ws : List Nat => (.inr (l, (p : Int), cN ws) : Int ⊕ (List Instr × Int × List Int)))
  (Inv:=fun j ws=>ws.length=l.length∧(∀ k,O ws k=if k<j then wr l k else 0)∧∀ k x,k<j→l[k]?=some x→JD x<2 ^ s)
  (Lf:=fun k i ws=>f83.fM N k (l,(s:Int),l,(l.length:Int),i,(p:Int),cN ws))
  (fun k ws _=>by simp only[f83.fM.eq_2,bp,ai])
  (fun k j x ws hx ⟨h1, h2, h3⟩ => by
   have hj:=aN hx
   have hc:=hv.aM j x hx
   have hw:j<ws.length:=by omega
   have yK:=BK hc
   have e1:(cN ws).set j ((eR 0 (bP IW x):Nat):Int)=cN (ws.set j (SS x)):=BN _ _ _
   have sH:j<(ws.set j (SS x)).length:=by simp;exact hw
   have afc:∀ {a:Nat},a<2 ^ 16→a<2 ^ 64:=fun h=>BI h (by omega)
   simp only[f83.fM.eq_2,bg hj,av,aT hx,Option.bind_some,Lg,hc,show ((0:Int) != 0)=false from rfl,ai,SU hN (qc IW x) yK.2,SU hN (qc ue x) yK.1,cq,dD hw,aj,Int.toNat_natCast,j4 hw,
    e1,dD sH,j4 sH,gJ hw,if_true,FP (afc (yj (m:=0) yK.1 (by omega))) (afc (abo hc)),show (!decide ((s:Int)<0))=true by simp]
   have hu:eR 0 (bP ue x) ||| SS x=JD x:=by rw[JD,yl (bP IW x)];rfl
   rw[hu]
   have hf:=fdiv_pow (a:=JD x) hs
   rw[Int.toNat_natCast] at hf
   simp only[hf]
   by_cases hsu:JD x<2 ^ s
   ·right
    rw[decide_eq_false (not_not.2 hsu),ai]
    refine⟨ws.set j (SS x),⟨by simp[h1],fun k=>?_,fun k y hk hy=>?_⟩,by rw[aE (by omega)]⟩
    ·rw [gJ hw, h2]
     by_cases hk:k=j
     ·subst hk;rw[if_pos rfl,if_pos (by omega),Lp hx]
     ·rw [if_neg hk]
      by_cases hk2:k<j
      ·rw[if_pos hk2,if_pos (by omega)]
      ·rw[if_neg hk2,if_neg (by omega)]
    ·by_cases hk2 : k = j
     ·subst hk2;rw[hx] at hy;injection hy with hy;subst hy;exact hsu
     ·exact h3 k y (by omega) hy
   ·left
    rw[decide_eq_true hsu,av]
    refine⟨_,⟨rfl,?_⟩,rfl⟩
    simp only[j0,Bool.not_eq_false',List.any_eq_true,decide_eq_true_eq]
    exact⟨x,bD hx,hsu⟩)
  (k:=N) (s:=List.replicate l.length 0) ⟨by simp,fun k=>by rw[YM,if_neg (by omega)],fun k x hk=>by omega⟩ (by omega)
 rcases key with⟨r,⟨h1,h2⟩,h3⟩|⟨ws,⟨h1,h2,h3⟩,h4⟩
 ·rw[h2];simp only[Bool.false_eq_true,if_false];rw[h3,h1]
 ·have hb : j0 l s = true := by
   simp only[j0,Bool.not_eq_true',List.any_eq_false,decide_eq_true_eq,not_not]
   intro x hx
   obtain⟨i,hi,rfl⟩:=List.mem_iff_getElem.1 hx
   exact h3 i _ hi (List.getElem?_eq_getElem hi)
  rw[hb,if_pos rfl]
  refine⟨ws,fun k=>?_,h1,h4⟩
  rw[h2]
  split
  ·rfl
  ·rw[wr,List.getElem?_eq_none (by omega)]
theorem SX {N:Nat} {l:List Instr} (hN:14000000<N) (hl:l.length≤9223372036854775807) (Sy:ji l=true→l.length≤200) (params most:Int) :
  if ji l then
   if BL l params most=0 then ∃ G,VM l (2 ^ params.toNat-1) (2 ^ most.toNat-1) params.toNat most.toNat∧MU l (2 ^ params.toNat-1) (2 ^ most.toNat-1) G∧RX N (l,params,most)=some (cN (ym l G),0)
   else RX N (l,params,most)=some ([],BL l params most)
  else RX N (l,params,most)=some ([],8):=by
 rw[RX.eq_1,Li (by omega) hl,Option.bind_some]
 cases h:ji l with
 |false=>rfl
 | true =>
  have hv:=zw h
  have h1:=hv.pos
  have h2:=Sy h
  simp only[av,show ((0:Int) != 0)=false from rfl,ai,if_true,or4,Wv,Option.bind_some]
  unfold BL
  by_cases ha:most<0∨most>16∨params<0∨params>most
  ·rw[if_pos ha,decide_eq_true ha,av,if_neg (by decide)]
  ·rw [if_neg ha, decide_eq_false ha, ai]
   simp only[not_or,Int.not_lt] at ha
   obtain⟨s,rfl⟩:∃ s:Nat,most=(s:Int):=⟨most.toNat,by omega⟩
   obtain⟨p,rfl⟩:∃ p:Nat,params=(p:Int):=⟨params.toNat,by omega⟩
   have hs:s≤16:=by omega
   have hps:p≤s:=by omega
   simp only[Int.toNat_natCast,show decide ((0:Int)≤(l.length:Int))=true by simp,aj,Nat.le_refl,decide_true,Bool.true_and,az (show l.length≤10000000 by omega) (show 8≤1000 by omega),
    az (show l.length≤10000000 by omega) (show 1≤1000 by omega),abr]
   have key:=FR (N:=N) hv (by omega) (p:=p) hs
   by_cases hb:j0 l s=true
   case neg=>
    rw[if_neg hb] at key
    rw[if_neg (show ¬(if j0 l s=true then (0:Int) else 16)=0 by rw[if_neg hb];decide),if_neg hb,key]
    rfl
   case pos=>
    rw[if_pos hb] at key
    rw[if_pos (show (if j0 l s=true then (0:Int) else 16)=0 by rw[if_pos hb])]
    obtain⟨ws,k1,k2,k3⟩:=key
    have hVM:VM l (2 ^ p-1) (2 ^ s-1) p s:=⟨hv,h2,hs,hps,rfl,rfl,fun i x hx=>by
     simp only[j0,Bool.not_eq_true',List.any_eq_false,decide_eq_true_eq,not_not] at hb
     exact hb x (bD hx)⟩
    obtain⟨G,o,g1,g2,g3,g4⟩:=Lo hVM hN k1 k2
    refine⟨G,hVM,g1,?_⟩
    have e0:cg ((cg ((1:Int)*(2 ^ min p 64)))-1)=((2 ^ p-1:Nat):Int):=OI (n:=(p:Int)) (by omega) (by omega)
    have SY:ah ((o.length:Int)-1)=((l.length-1:Nat):Int):=by rw[g2];exact FL h1 (by omega)
    simp only[k3,Option.bind_some,Int.toNat_natCast,show decide ((0:Int)≤(l.length:Int))=true by simp,aj,Nat.le_refl,decide_true,Bool.true_and,az (show l.length≤10000000 by omega) (show 8≤1000 by omega),
     az (show l.length≤10000000 by omega) (show 1≤1000 by omega),show (!decide ((p:Int)<0))=true by simp,List.length_replicate,cq,show jf 0 l.length=true from dD (i:=0) h1,show Int.toNat 0=0 from rfl,
     FM h1,j4 (show 0<(List.replicate l.length 0).length by simp;omega),e0,g4,SY,dD (show l.length-1<o.length by omega),j4 (show l.length-1<o.length by omega)]
    congr 2
    rw[show (0:Int)=((0:Nat):Int) from rfl,BN]
    congr 1
    refine SW (by simp[g2]) fun k hk=>?_
    rw[gJ (by omega)]
    by_cases Jz:k=l.length-1
    ·rw[if_pos Jz,if_neg (fun h'=>h'.2 Jz)]
    ·rw [if_neg Jz, g3 k hk]
     by_cases hr:Reach l k
     ·rw[if_pos hr,if_pos ⟨hr,Jz⟩]
     ·rw[if_neg hr,if_neg (fun h'=>hr h'.1)]
end Go.Proofs.YthphehfgekjooaaGreatDoor
namespace Go.Proofs.YthphehfgekjooaaGreatDoor
open Go Go.bq Go.Sym
noncomputable def gu:Instr:=(34,-1,0,0)
noncomputable def yS:List Instr:=[(1,0,5,0),(3,1,1,0),(2,2,0,0),(15,3,0,0),(4,4,0,0),(4,5,0,0),(1,7,2,0),(18,6,7,0),(15,8,0,0)]
noncomputable def gK:List Instr:=(List.range 32).map (fun v:Nat=>((1,0,(v:Int),0):Instr))++yS++[(6,0,0,7),(7,7,7,0),(8,0,0,7),(9,0,0,7),(10,1,0,7),(12,1,1,0),(11,1,0,7),(17,3,0,0),(16,0,3,0),
 (4,3,0,0),(14,4,0,0),(13,7,4,0),(14,4,2,3),(17,8,4,0),(16,4,8,0),(20,6,7,0),(19,0,6,7),(20,5,7,0),(19,0,5,7),(21,7,6,0),
 (26,5,0,0),(26,6,0,0),(33,1,7,0),(5,7,0,0),(2,2,1,0),(29,1,0,0)]
noncomputable def pairs:List (Instr×Instr):=[((24,0,0,0),(25,0,1,0)),((24,7,0,0),(27,3,0,0)),((24,0,0,0),(26,2,0,0)),((24,0,0,0),(26,4,0,0)),((24,0,0,0),(26,7,0,0))]
noncomputable def ends:List Instr:=[(28,0,0,0),(30,0,0,0),(32,7,0,0)]
inductive SZ (f:Int):List Instr→Prop where
 |one {x:Instr} : x∈gK→SZ f [x]
 |two {x y:Instr} : (x,y)∈pairs→SZ f [x,y]
 |br {y:Instr} : y∈ends→SZ f [(23,1,ah (ah (f+0)+2),0),y]
noncomputable def abt:List Instr→Bool
 |[x]=>gK.contains x
 |[x,y]=>pairs.contains (x,y)
 |_=>false
theorem S0 {c:List Instr} {f:Int} (h:abt c=true):SZ f c:=by
 unfold abt at h
 split at h
 ·exact .one (List.contains_iff_mem.1 h)
 ·exact .two (List.contains_iff_mem.1 h)
 ·cases h
noncomputable def rep (k:Nat):Nat:=match k % 32 with
 |0=>k
 |25=>25+32*((k / 32) % 3)
 |26=>26+32*((k / 32) % 2)
 |28=>28+32*((k / 32) % 4)
 |r=>r
noncomputable def afd:List Nat:=(List.range 32).map (32 * ·)++(List.range' 1 27)++[57,89,58,28,60,92,124]
theorem Wz:∀ k,k<1024→rep k∈afd∨29≤rep k∧rep k≤31:=by decide +kernel
theorem OM {N n:Nat} (hn:n≤100000):rL N (n:Int)=rL N ((n % 1024:Nat):Int):=by
 have h1:∀ m:Nat,m≤100000→Int.tmod (max (m:Int) 0) 32=((m % 32:Nat):Int):=fun m _=>by
  rw[show max (m:Int) 0=(m:Int) by omega,show (32:Int)=((32:Nat):Int) from rfl,vB]
 have h2:∀ m:Nat,m≤100000→Int.tmod (ah (Int.tdiv (max (m:Int) 0) 32)) 32=((m / 32 % 32:Nat):Int):=fun m hm=>by
  rw[show max (m:Int) 0=(m:Int) by omega,show (32:Int)=((32:Nat):Int) from rfl,IG,lP (by omega),vB]
 rw[rL.eq_1,rL.eq_1]
 simp only[h1 n hn,h2 n hn,h1 (n % 1024) (by omega),h2 (n % 1024) (by omega),show n % 1024 % 32=n % 32 by omega,show n % 1024 / 32 % 32=n / 32 % 32 by omega]
noncomputable def YN (N k:Nat):Bool:=match rL N (k:Int),rL N ((rep k:Nat):Int) with
 |some a,some b=>a==b
 |_,_=>false
theorem Lq (N:Nat):((List.range 1024).all (YN N))=true:=by kernel_rfl
theorem ON {N k:Nat} (h:k<1024):rL N (k:Int)=rL N ((rep k:Nat):Int):=by
 have h:=List.all_eq_true.1 (Lq N) _ (List.mem_range.2 h)
 unfold YN at h
 split at h
 ·rename_i a b ha hb
  rw[ha,hb,eq_of_beq h]
 ·cases h
noncomputable def LX (N:Nat) (f:Int) (k:Nat):Bool:=match rL N (k:Int) with
 |some s=>match yM (N+60) (s,f) with
  |some c=>abt c
  |none=>false
 |none=>false
theorem OO (N:Nat) (f:Int):(afd.all (LX N f))=true:=by kernel_rfl
theorem WA (N:Nat) (f:Int):[29,30,31].map (fun k:Nat=>(rL N (k:Int)).bind fun s=>yM (N+60) (s,f))=ends.map fun y=>some [(23,1,ah (ah (f+0)+2),0),y]:=by kernel_rfl
theorem D1 {N n:Nat} (hn:n≤100000) (f:Int):∃ s c,rL N (n:Int)=some s∧yM (N+60) (s,f)=some c∧SZ f c:=by
 have hk:n % 1024<1024:=Nat.mod_lt _ (by omega)
 have h1:=ON (N:=N) hk
 rw[OM hn,h1]
 rcases Wz _ hk with h|h
 ·have h2 := List.all_eq_true.1 (OO N f) _ h
  unfold LX at h2
  split at h2
  ·rename_i s hs
   split at h2
   ·rename_i c hc
    exact⟨s,c,hs,hc,S0 h2⟩
   ·cases h2
  ·cases h2
 ·have h2 := WA N f
  simp only[List.map_cons,List.map_nil,List.cons.injEq,and_true,ends] at h2
  have fin:∀ {k:Nat} {y:Instr},y∈ends→((rL N (k:Int)).bind fun s=>yM (N+60) (s,f))=some [(23,1,ah (ah (f+0)+2),0),y]→∃ s c,rL N (k:Int)=some s∧yM (N+60) (s,f)=some c∧SZ f c:=by
   intro k y hy h
   cases hs:rL N (k:Int) with
   |none=>rw[hs] at h;cases h
   |some s=>rw[hs] at h;exact⟨s,_,rfl,h,.br hy⟩
  obtain⟨q1,q2,q3⟩:=h2
  have:rep (n % 1024)=29∨rep (n % 1024)=30∨rep (n % 1024)=31:=by omega
  rcases this with e|e|e<;>rw[e]
  ·exact fin (by simp[ends]) q1
  ·exact fin (by simp[ends]) q2
  ·exact fin (by simp[ends]) q3
end Go.Proofs.YthphehfgekjooaaGreatDoor
namespace Go.Proofs.YthphehfgekjooaaGreatDoor
open Go Go.bq Go.Sym
inductive Code:Nat→List Instr→Prop where
 |fin {i:Nat} : Code i [gu]
 |one {i:Nat} {x:Instr} {r:List Instr} : x∈gK→Code (i+1) r→Code i (x :: r)
 |two {i:Nat} {x y:Instr} {r:List Instr} : (x,y)∈pairs→Code (i+2) r→Code i (x :: y :: r)
 |br {i:Nat} {y:Instr} {r:List Instr} : y∈ends→Code (i+2) r→Code i ((23,1,((i+2:Nat):Int),0) :: y :: r)
theorem SZ.len {f:Int} {c:List Instr} (h:SZ f c):1≤c.length∧c.length≤2:=by cases h<;>simp
theorem SZ.code {i:Nat} (hi:i≤1000) {c r:List Instr} (h:SZ (i:Int) c) (hr:Code (i+c.length) r):Code i (c++r):=by
 cases h with
 |one h=>exact .one h hr
 |two h=>exact .two h hr
 |br h=>
  have e:ah (ah ((i:Int)+0)+2)=((i+2:Nat):Int):=by rw[bn (n:=(i:Int)+0) (by omega),bn (by omega)];omega
  rw[e]
  exact .br h hr
inductive Bs (N:Nat):List Instr→List Int→List Instr→Prop where
 |nil {b:List Instr} : Bs N b [] b
 |cons {b:List Instr} {x:Int} {xs:List Int} {s:List UInt8} {c b':List Instr} : rL N x=some s→yM N (s,(b.length:Int))=some c→SZ (b.length:Int) c→Bs N (b++c) xs b'→Bs N b (x :: xs) b'
theorem Bs.app {N:Nat} {b b' b'':List Instr} {xs ys:List Int} (h:Bs N b xs b') (k:Bs N b' ys b''):Bs N b (xs++ys) b'':=by
 induction h with
 |nil=>exact k
 |cons h1 h2 h3 _ ih=>exact .cons h1 h2 h3 (ih k)
theorem Bs.pre {N:Nat} {b b':List Instr} {xs:List Int} (h:Bs N b xs b'):∃ r,b'=b++r∧r.length≤2*xs.length∧∀ t,b'.length≤1000→Code b'.length t→Code b.length (r++t):=by
 induction h with
 |nil=>exact⟨[],by simp,by simp,fun t _ ht=>ht⟩
 | @cons b x xs s c b' h1 h2 h3 _ ih=>
  obtain⟨r,rfl,hl,hc⟩:=ih
  have hcl:=h3.len
  refine⟨c++r,by simp,by simp only[List.length_append,List.length_cons];omega,fun t ht hk=>?_⟩
  have:=hc t ht hk
  rw[List.length_append] at this
  rw[List.append_assoc]
  simp only[List.length_append] at ht
  exact h3.code (by omega) this
theorem Bs.ex {N:Nat} : ∀ {xs:List Int} {b:List Instr},(∀ x,x∈xs→0≤x∧x≤100000)→∃ b',Bs (N+60) b xs b'
 |[],b,_=>⟨b,.nil⟩
 |x :: xs,b,h=>by
  obtain⟨n,rfl⟩:∃ n:Nat,x=(n:Int):=⟨x.toNat,by have:=h x List.mem_cons_self;omega⟩
  have hn:=h _ (List.mem_cons_self (a:=(n:Int)) (l:=xs))
  obtain⟨s,c,h1,h2,h3⟩:=D1 (N:=N) (n:=n) (by omega) (b.length:Int)
  have h1:rL (N+60) (n:Int)=some s:=by rw[←h1,rL.eq_1,rL.eq_1];rfl
  obtain⟨b',hb⟩:=Bs.ex (N:=N) (b:=b++c) fun x hx=>h x (List.mem_cons_of_mem _ hx)
  exact⟨b',.cons h1 h2 h3 hb⟩
noncomputable def base:List Instr:=gK++ends++[gu]++pairs.map (·.1)++pairs.map (·.2)
theorem Lr:(base.all fun x=>fk x&&(x.1 != 22&&x.1 != 23)&&decide (-1000≤x.2.1∧x.2.1≤1000∧-1000≤x.2.2.1∧x.2.2.1≤1000∧-1000≤x.2.2.2∧x.2.2.2≤1000))=true:=by decide +kernel
theorem Code.good {i:Nat} {r:List Instr} (h:Code i r):(1≤r.length)∧r.getLast?=some gu∧∀ x,x∈r→x∈base∨∃ t,t<i+r.length∧x=(23,1,(t:Int),0):=by
 induction h with
 |fin=>exact⟨by simp,rfl,fun x hx=>.inl (by rw[List.mem_singleton.1 hx];simp[base])⟩
 | @one i x r hx _ ih =>
  obtain⟨h1,h2,h3⟩:=ih
  refine⟨by simp,by rw[List.getLast?_cons,h2];rfl,fun y hy=>?_⟩
  rcases List.mem_cons.1 hy with rfl|hy
  ·exact .inl (by simp[base,hx])
  ·rcases h3 y hy with h | ⟨t, ht, h⟩
   ·exact .inl h
   ·exact .inr ⟨t,by simp only[List.length_cons];omega,h⟩
 | @two i x y r hx _ ih =>
  obtain⟨h1,h2,h3⟩:=ih
  refine⟨by simp,by rw[List.getLast?_cons,List.getLast?_cons,h2];rfl,fun z hz=>?_⟩
  rcases List.mem_cons.1 hz with rfl|hz
  ·exact .inl (by simp only[base,List.mem_append,List.mem_map];exact .inl (.inr ⟨_,hx,rfl⟩))
  rcases List.mem_cons.1 hz with rfl|hz
  ·exact .inl (by simp only[base,List.mem_append,List.mem_map];exact .inr ⟨_,hx,rfl⟩)
  ·rcases h3 z hz with h | ⟨t, ht, h⟩
   ·exact .inl h
   ·exact .inr ⟨t,by simp only[List.length_cons];omega,h⟩
 | @br i y r hy _ ih =>
  obtain⟨h1,h2,h3⟩:=ih
  refine⟨by simp,by rw[List.getLast?_cons,List.getLast?_cons,h2];rfl,fun z hz=>?_⟩
  rcases List.mem_cons.1 hz with rfl|hz
  ·exact .inr ⟨i+2,by simp only[List.length_cons];omega,rfl⟩
  rcases List.mem_cons.1 hz with rfl|hz
  ·exact .inl (by simp[base,hy])
  ·rcases h3 z hz with h | ⟨t, ht, h⟩
   ·exact .inl h
   ·exact .inr ⟨t,by simp only[List.length_cons];omega,h⟩
noncomputable def sc (l:List Instr):Nat→List Int
 |0=>[]
 |k+1=>match l[k]? with
  |some x=>if x.1=24 then [0] else []
  |none=>[]
theorem vI {l:List Instr} {k:Nat} {x:Instr} (h:l[k]?=some x):sc l (k+1)=if x.1=24 then [0] else []:=by simp only[sc,h]
inductive BO:Instr→List Int→List Int→Prop where
 |one {x:Instr} : x∈gK∨x∈ends∨x=gu→BO x [] []
 |br {t:Nat} : t<200→BO (23,1,(t:Int),0) [] []
 |arg {x y:Instr} : (x,y)∈pairs→BO x [] [0]
 |call {x y:Instr} : (x,y)∈pairs→BO y [0] []
theorem wX:∀ x,x∈gK→x.1≠34∧x.1≠28∧x.1≠30∧x.1≠22∧x.1≠23∧x.1≠24:=by
 have:(gK.all fun x=>decide (x.1≠34∧x.1≠28∧x.1≠30∧x.1≠22∧x.1≠23∧x.1≠24))=true:=by decide +kernel
 exact fun x hx=>of_decide_eq_true (List.all_eq_true.1 this x hx)
theorem zy:∀ x y,(x,y)∈pairs→x.1=24∧y.1≠34∧y.1≠28∧y.1≠30∧y.1≠22∧y.1≠23∧y.1≠24:=by
 have:(pairs.all fun p=>decide (p.1.1=24∧p.2.1≠34∧p.2.1≠28∧p.2.1≠30∧p.2.1≠22∧p.2.1≠23∧p.2.1≠24))=true:=by decide +kernel
 exact fun x y hx=>of_decide_eq_true (List.all_eq_true.1 this _ hx)
theorem abu:∀ x,x∈ends→(x.1=28∨x.1=30∨x.1=32):=by
 have:(ends.all fun x=>decide (x.1=28∨x.1=30∨x.1=32))=true:=by decide +kernel
 exact fun x hx=>of_decide_eq_true (List.all_eq_true.1 this x hx)
theorem j5 {l:List Instr} {i:Nat} {x:Instr} (h:l[i]?=some x) (h1:x.1≠34∧x.1≠28∧x.1≠30∧x.1≠22∧x.1≠23):nx l i=[i+1]:=by
 simp[nx,h,h1]
theorem zz {l:List Instr} {i:Nat} {x:Instr} (h:l[i]?=some x) (h1:x.1=34∨x.1=28∨x.1=30):nx l i=[]:=by
 simp[nx,h,h1]
theorem S1 {l:List Instr} {i:Nat} (h:l[i]?=some (23,1,((i+2:Nat):Int),0)):nx l i=[i+1,i+2]:=by
 have e:((i+2:Nat):Int).toNat=i+2:=Int.toNat_natCast _
 unfold nx
 rw[h]
 simp only[e]
 rw[if_neg (by decide),if_neg (by decide),if_pos trivial,if_neg (by omega),Nat.min_eq_left (by omega),Nat.max_eq_right (by omega)]
structure AtC (l:List Instr) (k:Nat):Prop where
 ex:∃ x s',l[k]?=some x∧BO x (sc l k) s'∧∀ k',k'∈nx l k→sc l k'=s'∧(k'=k+1∨k'=k+2)∧k'<l.length
theorem qd (p:List Instr) (x:Instr) (r:List Instr):(p++x :: r)[p.length]?=some x:=by simp
theorem BP (p:List Instr) (x y:Instr) (r:List Instr):(p++x :: y :: r)[p.length+1]?=some y:=by
 rw[List.getElem?_append_right (by omega)];simp
theorem Code.facts {i:Nat} {r:List Instr} (h:Code i r):∀ {p:List Instr},p.length=i→sc (p++r) i=[]→(p++r).length≤200→∀ k,i≤k→k<(p++r).length→AtC (p++r) k:=by
 induction h with
 | @fin i=>
  intro p hp hs hl k h1 h2
  subst hp
  simp only[List.length_append,List.length_singleton] at h2
  have:k=p.length:=by omega
  subst this
  have e:=qd p gu []
  exact⟨_,[],e,by rw[hs];exact .one (.inr (.inr rfl)),fun k' hk'=>by rw[zz e (.inl rfl)] at hk';cases hk'⟩
 | @one i x r hx hc ih =>
  intro p hp hs hl k h1 h2
  subst hp
  have e:=qd p x r
  have ho:=wX x hx
  have hpos:=hc.good.1
  have hs':sc (p++x :: r) (p.length+1)=[]:=by rw[vI e,if_neg ho.2.2.2.2.2]
  by_cases hk:k=p.length
  ·subst hk
   refine⟨_,[],e,by rw[hs];exact .one (.inl hx),fun k' hk'=>?_⟩
   rw[j5 e ⟨ho.1,ho.2.1,ho.2.2.1,ho.2.2.2.1,ho.2.2.2.2.1⟩,List.mem_singleton] at hk'
   subst hk'
   exact⟨hs',.inl rfl,by simp only[List.length_append,List.length_cons];omega⟩
  ·have := @ih (p ++ [x]) (by simp)
   rw[List.append_assoc,List.singleton_append] at this
   exact this hs' hl k (by omega) h2
 | @two i x y r hx hc ih =>
  intro p hp hs hl k h1 h2
  subst hp
  have e:=qd p x (y :: r)
  have e2:=BP p x y r
  have ho:=zy x y hx
  have hpos:=hc.good.1
  have hs1:sc (p++x :: y :: r) (p.length+1)=[0]:=by rw[vI e,if_pos ho.1]
  have hs2:sc (p++x :: y :: r) (p.length+2)=[]:=by rw[vI e2,if_neg ho.2.2.2.2.2.2]
  by_cases hk:k=p.length
  ·subst hk
   refine⟨_,[0],e,by rw[hs];exact .arg hx,fun k' hk'=>?_⟩
   rw[j5 e (by rw[ho.1];decide),List.mem_singleton] at hk'
   subst hk'
   exact⟨hs1,.inl rfl,by simp only[List.length_append,List.length_cons];omega⟩
  by_cases hk2:k=p.length+1
  ·subst hk2
   refine⟨_,[],e2,by rw[hs1];exact .call hx,fun k' hk'=>?_⟩
   rw[j5 e2 ⟨ho.2.1,ho.2.2.1,ho.2.2.2.1,ho.2.2.2.2.1,ho.2.2.2.2.2.1⟩,List.mem_singleton] at hk'
   subst hk'
   exact⟨hs2,.inl rfl,by simp only[List.length_append,List.length_cons];omega⟩
  ·have := @ih (p ++ [x, y]) (by simp)
   rw[List.append_assoc,List.cons_append,List.singleton_append] at this
   exact this hs2 hl k (by omega) h2
 | @br i y r hy hc ih =>
  intro p hp hs hl k h1 h2
  subst hp
  have e:=qd p (23,1,((p.length+2:Nat):Int),0) (y :: r)
  have e2:=BP p (23,1,((p.length+2:Nat):Int),0) y r
  have ho:=abu y hy
  have hpos:=hc.good.1
  have hs1:sc (p++(23,1,((p.length+2:Nat):Int),0) :: y :: r) (p.length+1)=[]:=by rw[vI e];rfl
  have hs2:sc (p++(23,1,((p.length+2:Nat):Int),0) :: y :: r) (p.length+2)=[]:=by rw[vI e2,if_neg (by omega)]
  simp only[List.length_append,List.length_cons] at hl h2
  by_cases hk:k=p.length
  ·subst hk
   refine⟨_,[],e,by rw[hs];exact .br (by omega),fun k' hk'=>?_⟩
   rw[S1 e] at hk'
   simp only[List.mem_cons,List.not_mem_nil,or_false] at hk'
   rcases hk' with rfl|rfl
   ·exact⟨hs1,.inl rfl,by simp only[List.length_append,List.length_cons];omega⟩
   ·exact⟨hs2,.inr rfl,by simp only[List.length_append,List.length_cons];omega⟩
  by_cases hk2:k=p.length+1
  ·subst hk2
   refine⟨_,[],e2,by rw[hs1];exact .one (.inr (.inl hy)),fun k' hk'=>?_⟩
   by_cases h32:y.1=32
   ·rw [j5 e2 (by rw [h32]; decide), List.mem_singleton] at hk'
    subst hk'
    exact⟨hs2,.inl rfl,by simp only[List.length_append,List.length_cons];omega⟩
   ·rw[zz e2 (by omega)] at hk';cases hk'
  ·have := @ih (p ++ [(23, 1, ((p.length + 2 : Nat) : Int), 0), y]) (by simp)
   rw[List.append_assoc,List.cons_append,List.singleton_append] at this
   exact this hs2 (by simp only[List.length_append,List.length_cons];omega) k (by omega) (by simp only[List.length_append,List.length_cons];omega)
theorem Code.reach {i:Nat} {r:List Instr} (h:Code i r):∀ {p:List Instr},p.length=i→Reach (p++r) i→∀ k,i≤k→k<(p++r).length→Reach (p++r) k:=by
 induction h with
 | @fin i=>
  intro p hp hr k h1 h2
  simp only[List.length_append,List.length_singleton] at h2
  rw[show k=i by omega];exact hr
 | @one i x r hx hc ih =>
  intro p hp hr k h1 h2
  subst hp
  by_cases hk:k=p.length
  ·rw[hk];exact hr
  ·have ho := wX x hx
   have:=@ih (p++[x]) (by simp)
   rw[List.append_assoc,List.singleton_append] at this
   exact this (.step hr (by rw[j5 (qd p x r) ⟨ho.1,ho.2.1,ho.2.2.1,ho.2.2.2.1,ho.2.2.2.2.1⟩];simp)) k (by omega) h2
 | @two i x y r hx hc ih =>
  intro p hp hr k h1 h2
  subst hp
  have ho:=zy x y hx
  have AZ:Reach (p++x :: y :: r) (p.length+1):=.step hr (by rw[j5 (qd p x (y :: r)) (by rw[ho.1];decide)];simp)
  by_cases hk:k=p.length
  ·rw[hk];exact hr
  by_cases hk2:k=p.length+1
  ·rw[hk2];exact AZ
  ·have := @ih (p ++ [x, y]) (by simp)
   rw[List.append_assoc,List.cons_append,List.singleton_append] at this
   exact this (.step AZ (by rw[j5 (BP p x y r) ⟨ho.2.1,ho.2.2.1,ho.2.2.2.1,ho.2.2.2.2.1,ho.2.2.2.2.2.1⟩];simp)) k (by omega) h2
 | @br i y r hy hc ih =>
  intro p hp hr k h1 h2
  subst hp
  have e:=qd p (23,1,((p.length+2:Nat):Int),0) (y :: r)
  by_cases hk:k=p.length
  ·rw[hk];exact hr
  by_cases hk2:k=p.length+1
  ·rw[hk2];exact .step hr (by rw[S1 e];simp)
  ·have := @ih (p ++ [(23, 1, ((p.length + 2 : Nat) : Int), 0), y]) (by simp)
   rw[List.append_assoc,List.cons_append,List.singleton_append] at this
   exact this (.step hr (by rw[S1 e];simp)) k (by omega) h2
end Go.Proofs.YthphehfgekjooaaGreatDoor
namespace Go.Proofs.YthphehfgekjooaaGreatDoor
open Go Go.bq Go.Sym
noncomputable def iO:List aI:=[(2,0,0,[]),(1,0,0,[]),(3,0,0,[]),(4,0,0,[]),(5,0,0,[([110],0),([111,110],1),([97,116],3)]),(6,0,3,[]),(7,0,0,[]),(4,4,0,[])]
noncomputable def iP:List (List UInt8):=[[108,97,116,101],[116,97,115,107],[98,111,111,109]]
noncomputable def MV:List Field:=[([110],0),([111,110],1),([115],2),([112],3),([114],4),([97],5),([108],6),([107],0),([113],7)]
noncomputable def nQ:List UInt8:=[109,97,105,110]
abbrev RQ:=Nat→List cI×List cI
noncomputable def Q0:RQ:=fun _=>([(0,0)],[(0,0)])
noncomputable def fJ (Q:RQ):List Func:=[
 ([119,111,114,107],1,0,[([110],0),([107],0),([111,110],1)],[(1,1,1,0),(10,2,0,1),(23,2,8,0),(7,1,0,1),(24,1,0,0),(25,1,1,0),(6,1,1,0),(34,1,0,0),(34,0,0,0),(34,-1,0,0)],(Q 1).1,(Q 1).2),
 ([108,97,116,101],1,-1,[([110],0),([111,110],1),([107],0)],[(29,1,2,0),(23,1,4,0),(10,1,0,2),(23,1,5,0),(34,-1,0,0),(28,0,0,0),(34,-1,0,0)],(Q 2).1,(Q 2).2),
 ([116,97,115,107],1,-1,[([107],0),([111,110],1)],[(31,0,0,0),(33,1,0,0),(23,1,4,0),(32,0,0,0),(34,-1,0,0)],(Q 3).1,(Q 3).2),
 ([102,97,105,108],1,-1,[([110],0)],[(28,0,0,0),(34,-1,0,0)],(Q 4).1,(Q 4).2),
 ([108,101,97,118,101],0,-1,[],[(30,0,0,0),(34,-1,0,0)],(Q 5).1,(Q 5).2),
 ([113,117,105,101,116],0,-1,[([111,110],1),([110],0)],[(29,0,1,0),(34,-1,0,0)],(Q 6).1,(Q 6).2),
 ([97,103,97,105,110],1,-1,[([110],0),([111,110],1),([107],0)],[(29,1,2,0),(28,0,0,0),(34,-1,0,0)],(Q 7).1,(Q 7).2)]
noncomputable def S3 (Q:RQ) (l:List Instr):Func:=(nQ,0,-1,MV,l,(Q 0).1,(Q 0).2)
noncomputable def qe (Q:RQ) (l:List Instr):List Func:=S3 Q l :: fJ Q
noncomputable def brs:List Instr:=(List.range 200).map fun t:Nat=>((23,1,(t:Int),0):Instr)
noncomputable def afe (N:Nat) (Q:RQ) (l:List Instr) (x:Instr):Bool:=decide (TO (N+60) (iO,iP,qe Q l,nQ,0,-1,MV,l,(Q 0).1,(Q 0).2,x.1,x.2.1,x.2.2.1,x.2.2.2)=some 0)
noncomputable def abv (N:Nat) (Q:RQ) (l:List Instr) (x:Instr):Bool:=decide (KU (N+60) (iO,iP,qe Q l,nQ,0,-1,MV,l,(Q 0).1,(Q 0).2,x.1,x.2.1,x.2.2.1,x.2.2.2)=some true)
noncomputable def S4 (N:Nat) (Q:RQ) (l:List Instr) (s s':List Int) (x:Instr):Bool:=decide (vw (N+60) (iO,iP,qe Q l,nQ,0,-1,MV,l,(Q 0).1,(Q 0).2,x.1,x.2.1,x.2.2.1,x.2.2.2,s)=some (s',true))
theorem S5 (N:Nat) (Q:RQ) (l:List Instr):((base++brs).all (afe N Q l))=true:=by kernel_rfl
theorem OP (N:Nat) (Q:RQ) (l:List Instr):((base++brs).all (abv N Q l))=true:=by kernel_rfl
theorem I1 (N:Nat) (Q:RQ) (l:List Instr):((gK++ends++[gu]++brs).all (S4 N Q l [] []))=true:=by kernel_rfl
theorem I2 (N:Nat) (Q:RQ) (l:List Instr):(pairs.all fun p=>S4 N Q l [] [0] p.1&&S4 N Q l [0] [] p.2)=true:=by kernel_rfl
theorem D2 (N:Nat) (Q:RQ) (l:List Instr):Ct (N+60) (iO,iP,qe Q l,nQ,0,-1,MV,l,(Q 0).1,(Q 0).2,[])=some (0,0)∧Ct (N+60) (iO,iP,qe Q l,nQ,0,-1,MV,l,(Q 0).1,(Q 0).2,[0])=some (8,0):=⟨by kernel_rfl,by kernel_rfl⟩
theorem Ls {t:Nat} (h:t<200):((23,1,(t:Int),0):Instr)∈brs:=List.mem_map.2 ⟨t,List.mem_range.2 h,rfl⟩
theorem WB {N:Nat} {Q:RQ} {l:List Instr} {x:Instr} (h:x∈base∨∃ t:Nat,t<200∧x=(23,1,(t:Int),0)):TO (N+60) (iO,iP,qe Q l,nQ,0,-1,MV,l,(Q 0).1,(Q 0).2,x.1,x.2.1,x.2.2.1,x.2.2.2)=some 0:=by
 refine of_decide_eq_true (List.all_eq_true.1 (S5 N Q l) x (List.mem_append.2 ?_))
 rcases h with h|⟨t,ht,rfl⟩
 ·exact .inl h
 ·exact .inr (Ls ht)
theorem S6 {N:Nat} {Q:RQ} {l:List Instr} {x:Instr} (h:x∈base∨∃ t:Nat,t<200∧x=(23,1,(t:Int),0)):KU (N+60) (iO,iP,qe Q l,nQ,0,-1,MV,l,(Q 0).1,(Q 0).2,x.1,x.2.1,x.2.2.1,x.2.2.2)=some true:=by
 refine of_decide_eq_true (List.all_eq_true.1 (OP N Q l) x (List.mem_append.2 ?_))
 rcases h with h|⟨t,ht,rfl⟩
 ·exact .inl h
 ·exact .inr (Ls ht)
theorem S7 {N:Nat} {Q:RQ} {l:List Instr} {x:Instr} {s s':List Int} (h:BO x s s'):vw (N+60) (iO,iP,qe Q l,nQ,0,-1,MV,l,(Q 0).1,(Q 0).2,x.1,x.2.1,x.2.2.1,x.2.2.2,s)=some (s',true):=by
 cases h with
 |one h=>
  refine of_decide_eq_true (List.all_eq_true.1 (I1 N Q l) x ?_)
  simp only[List.mem_append,List.mem_singleton]
  rcases h with h|h|h
  ·exact .inl (.inl (.inl h))
  ·exact .inl (.inl (.inr h))
  ·exact .inl (.inr h)
 |br h=>exact of_decide_eq_true (List.all_eq_true.1 (I1 N Q l) _ (List.mem_append.2 (.inr (Ls h))))
 |arg h=>
  have:=List.all_eq_true.1 (I2 N Q l) _ h
  rw[Bool.and_eq_true] at this
  exact of_decide_eq_true this.1
 |call h=>
  have:=List.all_eq_true.1 (I2 N Q l) _ h
  rw[Bool.and_eq_true] at this
  exact of_decide_eq_true this.2
noncomputable def sS (i:Nat):List cI×List cI×Int×Int:=(IC 400 (iO,iP,qe Q0 [],(i:Int))).getD ([],[],0,0)
noncomputable def others:List Nat:=[1,2,3,4,5,6,7]
theorem OQ (N:Nat) (Q:RQ) (l:List Instr):(others.map fun i:Nat=>IC (N+400) (iO,iP,qe Q l,(i:Int)))=others.map fun i:Nat=>some (sS i):=by kernel_rfl
theorem OR:(others.all fun i=>(sS i).2.2.2==0)=true:=by kernel_rfl
theorem WC (N:Nat) (p:List Int):F5 (N+60) p=(bif (decide ((p.length:Int)>(60:Int))) then some ([],[],[],(4:Int))
 else (Option.bind (f5.ct (N+60) (N+60) (p,(p.length:Int),(0:Int),yS)) fun b=>aM (room (b.length+[gu].length) 32) (Option.bind (Yt (N+60) (iO,iP,qe Q0 (b++[gu]))) fun y=>some (y.1,y.2.1,y.2.2.1,y.2.2.2)))):=by kernel_rfl
theorem D3 {N:Nat} {p:List Int} (hp:p.length≤60):∀ (k i:Nat) (b b':List Instr),i≤p.length→p.length-i<k→b.length≤9+2*i→Bs N b (p.drop i) b'→f5.ct N k (p,(p.length:Int),(i:Int),b)=some b'
 |0,_,_,_,_,h,_,_=>by omega
 | k + 1, i, b, b', hi, hk, hb, h => by
  rw[f5.ct.eq_2]
  by_cases he:i=p.length
  ·subst he
   rw[List.drop_length] at h
   cases h
   rw[bp];rfl
  ·have hlt : i < p.length := by omega
   rw[List.drop_eq_getElem_cons hlt] at h
   cases h with
   |cons h1 h2 h3 h4=>
    have hc:=h3.len
    rw[bg hlt,av,aT (List.getElem?_eq_getElem hlt),Option.bind_some,h1,Option.bind_some,h2,Option.bind_some,az (by omega) (by omega),aj,aE (by omega)]
    exact D3 hp k (i+1) _ _ (by omega) (by omega) (by rw[List.length_append];omega) h4
end Go.Proofs.YthphehfgekjooaaGreatDoor
