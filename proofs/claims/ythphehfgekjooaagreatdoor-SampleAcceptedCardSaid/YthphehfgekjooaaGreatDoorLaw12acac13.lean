/- A part of the proof: Law12acac10, Law12acac11, Law12acac12, Law12acac13. -/
import Derived.Test.YthphehfgekjooaaGreatDoorLaw12acac9
import Derived.Test.YthphehfgekjooaaGreatDoorLaw12acac6
set_option linter.unusedVariables false
set_option linter.unusedSimpArgs false
namespace Go.Proofs.YthphehfgekjooaaGreatDoor
open Go Go.bq Go.Sym
open Classical
inductive TS:Instr→Prop where
 |YX:TS Jp
 |int {x:Int} : iG x→TS (1,0,x,0)
 |defer {t:Nat} : t<20→TS (26,(t:Int),0,0)
noncomputable def M9 (y:Instr):Prop:=TS y∨y=yU∨y=gu
theorem xd:∀ t:Nat,t<20→fk (26,(t:Int),0,0)=true∧JD (26,(t:Int),0,0)<8:=by decide +kernel
theorem WR {x:Int} (h:iG x):fits 110 x=true:=by
 unfold iG at h
 unfold fits
 rw[show (U 110).1 = -9223372036854775808 from rfl,show (U 110).2.1=9223372036854775807 from rfl,decide_eq_true h.1,decide_eq_true h.2];rfl
theorem Na {x:Int} (h:iG x):fk (1,0,x,0)=true:=by
 show (fits 119 0&&(fits 110 x&&fits 45 0))=true
 rw[WR h];rfl
theorem TS.aM {y:Instr} (h:TS y):fk y=true:=by
 cases h with
 |YX=>decide +kernel
 |int h=>exact Na h
 |defer h=>exact (xd _ h).1
theorem TS.op {y:Instr} (h:TS y):(y.1≠34∧y.1≠28∧y.1≠30∧y.1≠22∧y.1≠23)∧y.1≠24:=by
 cases h<;>(simp only[Jp];decide)
theorem M9.aM {y:Instr} (h:M9 y):fk y=true:=by
 rcases h with h|rfl|rfl
 ·exact h.aM
 ·decide +kernel
 ·decide +kernel
theorem M9.op {y:Instr} (h:M9 y):y.1≠22∧y.1≠23∧y.1≠24:=by
 rcases h with h|rfl|rfl
 ·exact⟨h.op.1.2.2.2.1,h.op.1.2.2.2.2,h.op.2⟩
 ·decide
 ·decide
theorem M9.us {y:Instr} (h:M9 y):JD y<8:=by
 rcases h with h|rfl|rfl
 ·cases h with
  |YX=>decide +kernel
  | @int x hx=>show JD (1,0,x,0)<8;exact (by decide:eR (eR 0 []) [0]<8)
  |defer h=>exact (xd _ h).2
 ·decide +kernel
 ·decide +kernel
theorem sr:∀ t:Nat,t<20→bP ue (26,(t:Int),0,0)=[]∧bP IW (26,(t:Int),0,0)=[]:=by decide +kernel
theorem M9.rd {y:Instr} (h:M9 y):bP ue y=[]∨y=yU:=by
 rcases h with h|rfl|rfl
 ·left
  cases h with
  |YX=>decide +kernel
  |int hx=>rfl
  |defer h=>exact (sr _ h).1
 ·exact .inr rfl
 ·left;decide +kernel
theorem M9.ok {y:Instr} (h:M9 y):JB y:=by
 rcases h with h|rfl|rfl
 ·cases h with
  |YX=>unfold JB i64 Jp;decide
  |int hx=>unfold iG at hx;unfold JB i64;simp only;omega
  |defer h=>unfold JB i64;simp only;omega
 ·unfold JB i64 yU;decide
 ·unfold JB i64 gu;decide
noncomputable def Js (r:Bool) (d:Option Nat) (x:Int):List Instr:=(if r then [Jp] else [])++((match d with|some t=>[((26,(t:Int),0,0):Instr)]|none=>[])++[(1,0,x,0)])
theorem TF (r:Bool) (d:Option Nat) (x:Int):th r d x=Js r d x++[yU,gu]:=by
 unfold th Js
 cases d<;>simp
structure uk (c pre:List Instr):Prop where
 eq:c=pre++[yU,gu]
 pl:∀ y,y∈pre→TS y
 len:1≤pre.length∧pre.length≤3
 last:∃ x,pre[pre.length-1]?=some (1,0,x,0)
theorem WS {r:Bool} {d:Option Nat} {x:Int} (hx:iG x) (hd:∀ t,d=some t→t<20):uk (th r d x) (Js r d x):=by
 refine⟨TF r d x,fun y hy=>?_,?_,⟨x,?_⟩⟩
 ·unfold Js at hy
  rcases List.mem_append.1 hy with hy|hy
  ·split at hy
   ·rw[List.mem_singleton.1 hy];exact .YX
   ·cases hy
  rcases List.mem_append.1 hy with hy|hy
  ·cases d with
   |some t=>rw[List.mem_singleton.1 hy];exact .defer (hd t rfl)
   |none=>cases hy
  ·rw[List.mem_singleton.1 hy];exact .int hx
 ·unfold Js;cases r<;>cases d<;>simp
 ·unfold Js;cases r<;>cases d<;>rfl
section
variable {c pre:List Instr}
theorem uk.length (h:uk c pre):c.length=pre.length+2:=by rw[h.eq];simp
theorem uk.mem (h:uk c pre) {y:Instr} (hy:y∈c):M9 y:=by
 rw[h.eq] at hy
 rcases List.mem_append.1 hy with hy|hy
 ·exact .inl (h.pl y hy)
 ·simp only [List.mem_cons, List.not_mem_nil, or_false] at hy
  exact .inr hy
theorem uk.low (h:uk c pre) {k:Nat} (hk:k<pre.length):∃ y,c[k]?=some y∧pre[k]?=some y∧TS y:=by
 refine⟨pre[k],?_,List.getElem?_eq_getElem hk,h.pl _ (List.getElem_mem hk)⟩
 rw[h.eq,List.getElem?_append_left hk,List.getElem?_eq_getElem hk]
theorem uk.pan (h:uk c pre):c[pre.length]?=some yU:=by rw[h.eq];simp
theorem uk.ret (h:uk c pre):c[pre.length+1]?=some gu:=by rw[h.eq,List.getElem?_append_right (by omega)];simp
theorem uk.LS (h:uk c pre) {k:Nat} (hk:k<pre.length):nx c k=[k+1]:=by
 obtain⟨y,hy,_,hp⟩:=h.low hk
 exact j5 hy hp.op.1
theorem uk.YY (h:uk c pre) {k:Nat} (hk:pre.length≤k):nx c k=[]:=by
 by_cases h1:k=pre.length
 ·rw[h1];exact zz h.pan (.inr (.inl rfl))
 by_cases h2:k=pre.length+1
 ·rw[h2];exact zz h.ret (.inl rfl)
 ·unfold nx
  rw[List.getElem?_eq_none (by rw[h.length];omega)]
theorem uk.reach (h:uk c pre):∀ k,k≤pre.length→Reach c k
 |0,_=>.zero
 |k+1,hk=>.step (h.reach k (by omega)) (by rw[h.LS (by omega)];simp)
theorem uk.nc (h:uk c pre):Go.Proofs.YthphehfgekjooaaGreatDoor.nc c=gu:=by
 have:=h.ret
 unfold Go.Proofs.YthphehfgekjooaaGreatDoor.nc
 rw[List.getD_eq_getElem?_getD,h.length,show pre.length+2-1=pre.length+1 by omega,this];rfl
theorem uk.valid (h:uk c pre):ji c=true:=by
 have hl:=h.length
 have:=h.len
 unfold ji
 rw[decide_eq_true (by omega),decide_eq_true (by omega),h.nc]
 simp only[Bool.true_and]
 refine Bool.and_eq_true_iff.2 ⟨?_,rfl⟩
 rw[Bool.not_eq_true',List.any_eq_false]
 intro x hx
 have ho:=h.mem hx
 unfold Lh
 rw[ho.aM]
 simp[Cv,ho.op.1,ho.op.2.1]
theorem uk.sc (h:uk c pre) (k:Nat):sc c k=[]:=by
 cases k with
 |zero=>rfl
 | succ k =>
  simp only[Go.Proofs.YthphehfgekjooaaGreatDoor.sc]
  split
  ·rename_i x hx
   rw[if_neg (h.mem (bD hx)).op.2.2]
  ·rfl
theorem uk.iN (h:uk c pre):(Go.Proofs.YthphehfgekjooaaGreatDoor.iN c).set (c.length-1) true=List.replicate c.length true:=by
 apply List.ext_getElem?
 intro k
 by_cases hk:k<c.length
 ·rw [List.getElem?_set, List.getElem?_replicate, if_pos hk, jj]
  split
  ·rw[if_pos (by omega)]
  ·rename_i hne
   rw[ng hk,decide_eq_true (h.reach k (by have:=h.length;omega))]
 ·rw[List.getElem?_eq_none (by simp[jj];omega),List.getElem?_eq_none (by simp;omega)]
theorem uk.sol (h:uk c pre):Sol c 0 fun k=>if k=pre.length then 1 else 0:=by
 have hl:=h.len
 refine⟨by simp only;rw[if_neg (by omega)];exact lS _,fun i _ k hk=>?_⟩
 by_cases hi:i<pre.length
 ·rw [h.LS hi, List.mem_singleton] at hk
  subst hk
  by_cases he:i+1=pre.length
  ·obtain ⟨x, hx⟩ := h.last
   obtain⟨y,hy,hy2,_⟩:=h.low hi
   rw[show pre.length-1=i by omega,hy2] at hx
   rw[Option.some.inj hx] at hy
   simp only[if_pos he]
   rw[Lp hy]
   rw[show SS (1,0,x,0)=1 from (by decide:eR 0 [0]=1)]
   exact qb (if i=pre.length then 1 else 0) 1
  ·simp only [if_neg he]
   exact fun j hj=>by simp at hj
 ·rw [h.YY (by omega)] at hk
  cases hk
theorem uk.masks (h:uk c pre) {N:Nat} (hN:14000000<N):∃ ms:List Nat,RX N (c,0,3)=some (cN ms,0)∧ms.length=c.length∧∀ k x,c[k]?=some x→O ms k<2 ^ 64∧∀ s,s∈bP ue x→0≤s∧(O ms k).testBit s.toNat=true:=by
 have hl:=h.length
 have hp:=h.len
 have key:=SX (N:=N) hN (l:=c) (by omega) (fun _=>by omega) 0 3
 have hf:BL c 0 3=0:=by
  have:j0 c (3:Int).toNat=true:=by
   unfold j0
   rw[Bool.not_eq_true',List.any_eq_false]
   intro x hx
   have:=(h.mem hx).us
   simp only[decide_eq_true_eq,not_not]
   exact this
  unfold BL
  rw[if_neg (by omega),if_pos this]
 rw[if_pos h.valid,if_pos hf] at key
 obtain⟨G,hVM,hG,he⟩:=key
 refine⟨ym c G,he,wV _ _,fun k x hx=>?_⟩
 have Jz:=aN hx
 rw[wW Jz]
 have hb:=hG.SV k
 have hlt:G k<2 ^ 64:=by
  have:=hVM.lt hb
  omega
 rcases (h.mem (bD hx)).rd with hr|rfl
 ·rw [hr]
  refine⟨?_,fun s hs=>by cases hs⟩
  split
  ·exact hlt
  ·omega
 ·have hk : k = pre.length := by
   by_cases h1:k<pre.length
   ·obtain ⟨y, hy, _, hpl⟩ := h.low h1
    rw[hx] at hy
    rw[←Option.some.inj hy] at hpl
    exact absurd rfl hpl.op.1.2.1
   ·by_cases h2 : k = pre.length + 1
    ·rw [h2, h.ret] at hx
     exact absurd (Option.some.inj hx) (by decide)
    ·omega
  subst hk
  rw[if_pos ⟨h.reach _ (Nat.le_refl _),by omega⟩]
  refine⟨hlt,fun s hs=>?_⟩
  rw[show bP ue yU=[0] by decide +kernel,List.mem_singleton] at hs
  subst hs
  have hm:=hG.most _ h.sol pre.length (h.reach _ (Nat.le_refl _))
  simp only[if_pos] at hm
  exact⟨by decide,hm 0 (by decide)⟩
end
end Go.Proofs.YthphehfgekjooaaGreatDoor
namespace Go.Proofs.YthphehfgekjooaaGreatDoor
open Go Go.bq Go.Sym
open Classical
section
variable {fs:List Func} {nm:List UInt8} {l:List Instr} {si li:List cI}
theorem Pr (N:Nat) (fs:List Func) (nm:List UInt8) (l:List Instr) (si li:List cI) (a b c d:Int) (L:List Int) (h:L=[]∨L=[0]∨L=[1,2]) :
  f80.ct (N+60) (N+60) ((L.length:Int),0,eT,[],fs,nm,0,-1,qz,l,si,li,a,b,c,d,L)=some (.inr (eT,[],fs,nm,0,-1,qz,l,si,li,a,b,c,d)):=by
 rcases h with rfl|rfl|rfl<;>kernel_rfl
theorem oV {N:Nat} {y:Instr} {v:Int} (hc:fk y=true) (hL:bP ue y++bP IW y=[]∨bP ue y++bP IW y=[0]∨bP ue y++bP IW y=[1,2]) (hv:KS (N+60) (y.1,y.2.1,y.2.2.1,y.2.2.2)=some v) (hlt:v<(fs.length:Int)) (h2:(y.1==(2:Int))=false) :
  TO (N+60) (eT,[],fs,nm,0,-1,qz,l,si,li,y.1,y.2.1,y.2.2.1,y.2.2.2)=some 0:=by
 have hlen:(bP ue y).length+(bP IW y).length≤2:=by
  rw[←List.length_append]
  rcases hL with h|h|h<;>rw[h]<;>decide
 rw[TO.eq_1,Lg,hc]
 simp only[av,Option.bind_some,show ((0:Int) != 0)=false from rfl,ai,az (show (bP ue y).length+(bP IW y).length≤10000000 by omega) (show 8≤1000 by omega),aj,Pr N fs nm l si li _ _ _ _ _ hL,hv,decide_eq_false (show ¬v≥(fs.length:Int) by omega),h2]
theorem WT {N:Nat} {y:Instr} (h:M9 y) (hpos:1≤fs.length) (hd:∀ t:Nat,y=(26,(t:Int),0,0)→t<fs.length) :
  TO (N+60) (eT,[],fs,nm,0,-1,qz,l,si,li,y.1,y.2.1,y.2.2.1,y.2.2.2)=some 0:=by
 have hm:(-1:Int)<(fs.length:Int):=by omega
 rcases h with h|rfl|rfl
 ·cases h with
  |YX=>exact oV (y:=Jp) (by decide +kernel) (.inr (.inr (by decide +kernel))) (by kernel_rfl) hm rfl
  |int hx=>exact oV (y:=(1,0,_,0)) (Na hx) (.inr (.inl rfl)) (by kernel_rfl) hm rfl
  | @defer t ht=>exact oV (y:=(26,(t:Int),0,0)) (xd t ht).1 (.inl (by rw[(sr t ht).1,(sr t ht).2];rfl)) (show _=some (t:Int) by kernel_rfl) (by have:=hd t rfl;omega) rfl
 ·exact oV (y:=yU) (by decide +kernel) (.inr (.inl (by decide +kernel))) (by kernel_rfl) hm rfl
 ·exact oV (y:=gu) (by decide +kernel) (.inl (by decide +kernel)) (by kernel_rfl) hm rfl
theorem Ef (N:Nat) (s:Int):∃ v,Bj N (eT,[],fs,nm,0,-1,qz,l,si,li,s)=some v:=by
 rw[Bj.eq_1,KQ.eq_1]
 by_cases h:s≥0
 ·rw [decide_eq_true h, av]
  simp only[Option.bind_some]
  by_cases h2:s<(qz.length:Int)
  ·rw [decide_eq_true h2]
   obtain⟨n,rfl⟩:=Int.eq_ofNat_of_zero_le h
   rw[Bool.not_true,ai,aT (List.getElem?_eq_getElem (show n<qz.length by omega))]
   exact⟨_,rfl⟩
  ·rw[decide_eq_false h2];exact⟨_,rfl⟩
 ·rw[decide_eq_false h];exact⟨_,rfl⟩
theorem Pt (N:Nat) (fs:List Func) (nm:List UInt8) (l:List Instr) (si li:List cI) (x:Int):KU (N+60) (eT,[],fs,nm,0,-1,qz,l,si,li,1,0,x,0)=(Bj (N+60) (eT,[],fs,nm,0,-1,qz,l,si,li,x)).bind fun _=>some true:=by kernel_rfl
theorem Jt (N:Nat) (fs:List Func) (nm:List UInt8) (l:List Instr) (si li:List cI) (t:Int):KU (N+60) (eT,[],fs,nm,0,-1,qz,l,si,li,26,t,0,0)=(Bj (N+60) (eT,[],fs,nm,0,-1,qz,l,si,li,t)).bind fun _=>(idx fs t).bind fun f=>(Ot (N+60) (eT,[],fs,nm,0,-1,qz,l,si,li,f.1,f.2.1,f.2.2.1,f.2.2.2.1,f.2.2.2.2.1,f.2.2.2.2.2.1,f.2.2.2.2.2.2)).bind fun z=>some z:=by kernel_rfl
theorem Pu (N:Nat) (fs:List Func) (nm:List UInt8) (l:List Instr) (si li:List cI):KU (N+60) (eT,[],fs,nm,0,-1,qz,l,si,li,29,1,2,0)=some true:=by kernel_rfl
theorem Pv (N:Nat) (fs:List Func) (nm:List UInt8) (l:List Instr) (si li:List cI):KU (N+60) (eT,[],fs,nm,0,-1,qz,l,si,li,28,0,0,0)=some true:=by kernel_rfl
theorem Pw (N:Nat) (fs:List Func) (nm:List UInt8) (l:List Instr) (si li:List cI):KU (N+60) (eT,[],fs,nm,0,-1,qz,l,si,li,34,-1,0,0)=some true:=by kernel_rfl
theorem TG {N:Nat} {y:Instr} (h:M9 y) (hd:∀ t:Nat,y=(26,(t:Int),0,0)→∃ f:Func,fs[t]?=some f∧f.2.1=0∧f.2.2.1 = -1) :
  KU (N+60) (eT,[],fs,nm,0,-1,qz,l,si,li,y.1,y.2.1,y.2.2.1,y.2.2.2)=some true:=by
 rcases h with h|rfl|rfl
 ·cases h with
  |YX=>exact Pu N fs nm l si li
  | @int x hx=>
   obtain⟨v,hv⟩:=Ef (fs:=fs) (nm:=nm) (l:=l) (si:=si) (li:=li) (N+60) x
   show KU (N+60) (eT,[],fs,nm,0,-1,qz,l,si,li,1,0,x,0)=some true
   rw[Pt,hv];rfl
  | @defer t ht=>
   obtain⟨v,hv⟩:=Ef (fs:=fs) (nm:=nm) (l:=l) (si:=si) (li:=li) (N+60) (t:Int)
   obtain⟨f,hf,h0,h1⟩:=hd t rfl
   show KU (N+60) (eT,[],fs,nm,0,-1,qz,l,si,li,26,(t:Int),0,0)=some true
   rw[Jt,hv,Option.bind_some,aT hf,Option.bind_some,Ot.eq_1,h0,h1];rfl
 ·exact Pv N fs nm l si li
 ·exact Pw N fs nm l si li
theorem qi (N:Nat) (fs:List Func) (nm:List UInt8) (l:List Instr) (si li:List cI) (x:Int) :
  vw (N+60) (eT,[],fs,nm,0,-1,qz,l,si,li,29,1,2,0,[])=some ([],true)∧vw (N+60) (eT,[],fs,nm,0,-1,qz,l,si,li,1,0,x,0,[])=some ([],true)∧
  vw (N+60) (eT,[],fs,nm,0,-1,qz,l,si,li,28,0,0,0,[])=some ([],true)∧vw (N+60) (eT,[],fs,nm,0,-1,qz,l,si,li,34,-1,0,0,[])=some ([],true):=⟨by kernel_rfl,by kernel_rfl,by kernel_rfl,by kernel_rfl⟩
theorem Gg (N:Nat) (fs:List Func) (nm:List UInt8) (l:List Instr) (si li:List cI):Ct (N+60) (eT,[],fs,nm,0,-1,qz,l,si,li,[])=some (0,0)∧Ct (N+60) (eT,[],fs,nm,0,-1,qz,l,si,li,[0])=some (8,0):=⟨by kernel_rfl,by kernel_rfl⟩
theorem step_loop (N:Nat) (fs:List Func) (nm:List UInt8) (l:List Instr) (si li:List cI) (f:Func):f130.IA (N+60) (N+60) ([],0,[],0,0,eT,[],fs,nm,0,-1,qz,l,si,li,f.1,f.2.1,f.2.2.1,f.2.2.2.1,f.2.2.2.2.1,f.2.2.2.2.2.1,f.2.2.2.2.2.2)=some (.inr ([],0,eT,[],fs,nm,0,-1,qz,l,si,li)):=by kernel_rfl
theorem WU {N:Nat} {y:Instr} (h:M9 y) (hd:∀ t:Nat,y=(26,(t:Int),0,0)→∃ f:Func,fs[t]?=some f∧f.2.1=0∧f.2.2.1 = -1) :
  vw (N+60) (eT,[],fs,nm,0,-1,qz,l,si,li,y.1,y.2.1,y.2.2.1,y.2.2.2,[])=some ([],true):=by
 rcases h with h|rfl|rfl
 ·cases h with
  |YX=>exact (qi N fs nm l si li 0).1
  | @int x hx=>exact (qi N fs nm l si li x).2.1
  | @defer t ht=>
   obtain⟨f,hf,h0,h1⟩:=hd t rfl
   have hcl:KS (N+60) (26,(t:Int),0,0)=some (t:Int):=by kernel_rfl
   have hw:ah (0-0)=0:=by decide
   have hlp:=step_loop N fs nm l si li f
   rw[h0] at hlp
   show vw (N+60) (eT,[],fs,nm,0,-1,qz,l,si,li,26,(t:Int),0,0,[])=some ([],true)
   rw[vw.eq_1]
   simp only[show ((26:Int)==24)=false from rfl,ai,Option.bind_some,hcl,decide_eq_true (show (t:Int)≥0 by omega),av,aT hf,h0,List.length_nil,show ((0:Nat):Int)=0 from rfl,hw,show decide ((0:Int)<0)=false from rfl,show decide ((0:Int)≤0)=true from rfl,aj,show Int.toNat 0=0 from rfl,List.drop_nil,show decide (0≤0)=true from rfl,hlp,List.take_nil,(Gg N fs nm l si li).1]
   rfl
 ·exact (qi N fs nm l si li 0).2.2.1
 ·exact (qi N fs nm l si li 0).2.2.2
end
end Go.Proofs.YthphehfgekjooaaGreatDoor
namespace Go.Proofs.YthphehfgekjooaaGreatDoor
open Go Go.bq Go.Sym
open Classical
structure CL (l:List Int) (rs:List Bool):Prop where
 pos:1≤l.length
 len:l.length≤20
 rs:rs.length+1=l.length
 i64:∀ x,x∈l→iG x
section
variable {l:List Int} {rs:List Bool}
theorem j6 (Q:RQ) (l:List Int) (rs:List Bool):(yz Q l rs).length=l.length:=by simp[yz]
theorem sP {Q:RQ} {i:Nat} (hi:i<l.length):(yz Q l rs)[i]?=some (fnH Q l rs i):=by
 unfold yz
 rw[List.getElem?_map,List.getElem?_range hi];rfl
theorem Gh {Q:RQ} {i:Nat} (hi:i<l.length):p8 (yz Q l rs) i=fnH Q l rs i:=by
 unfold p8
 rw[List.getD_eq_getElem?_getD,sP hi];rfl
theorem CL.ch (h:CL l rs) {i:Nat} (hi:i<l.length):uk (Gf l rs i) (Js (TC rs i) (mj l.length i) (l.getD i 0)):=by
 refine WS ?_ fun t ht=>?_
 ·rw [List.getD_eq_getElem?_getD, List.getElem?_eq_getElem hi]
  exact h.i64 _ (List.getElem_mem hi)
 ·have := h.len
  unfold mj at ht
  split at ht
  ·injection ht;omega
  ·cases ht
theorem Ju {i t:Nat} (hy:((26,(t:Int),0,0):Instr)∈Gf l rs i):t<l.length:=by
 unfold Gf th at hy
 rcases List.mem_append.1 hy with hy|hy
 ·split at hy
  ·rw[List.mem_singleton] at hy;exact absurd hy (by unfold Jp;intro e;cases e)
  ·cases hy
 rcases List.mem_append.1 hy with hy|hy
 ·unfold mj at hy
  split at hy
  ·rename_i d e
   split at e
   ·injection e with e
    rw[List.mem_singleton] at hy
    have:(t:Int)=(d:Int):=by injection hy with _ h2;injection h2
    omega
   ·cases e
  ·cases hy
 ·simp only [List.mem_cons, List.not_mem_nil, or_false, yU, gu] at hy
  rcases hy with hy|hy|hy<;>cases hy
theorem CL.abK (h:CL l rs) {N i:Nat} (hN:14000000<N) (hi:i<l.length):abJ (ι:=RQ) (N+60) eT [] (fun Q=>yz Q l rs) (qp i) 0 (-1) qz (Gf l rs i) (fun Q=>(Q i).1) fun Q=>(Q i).2:=by
 have hc:=h.ch hi
 have hl:=hc.length
 have hp:=hc.len
 have hd:∀ (Q:RQ) y,y∈Gf l rs i→∀ t:Nat,y=(26,(t:Int),0,0)→∃ f:Func,(yz Q l rs)[t]?=some f∧f.2.1=0∧f.2.2.1 = -1:=fun Q y hy t ht=>by
  rw[ht] at hy
  exact⟨_,sP (Ju hy),rfl,rfl⟩
 refine⟨⟨hc.valid,by omega,by omega,fun k hk=>?_,fun s hs=>?_,hc.sc _⟩,hc.iN,fun x hx Q=>?_,fun x hx Q=>?_,fun x hx=>(hc.mem hx).aM,⟨rfl,rfl⟩,hc.masks (by omega)⟩
 ·have hx := List.getElem?_eq_getElem hk
  have hm:=bD hx
  refine⟨_,[],hx,by simp,fun Q=>?_,fun k' hk'=>⟨hc.sc k',?_⟩⟩
  ·rw [hc.sc k]
   exact WU (hc.mem hm) (hd Q _ hm)
  ·by_cases mw : k < (Js (TC rs i) (mj l.length i) (l.getD i 0)).length
   ·rw [hc.LS mw, List.mem_singleton] at hk'
    omega
   ·rw[hc.YY (by omega)] at hk';cases hk'
 ·rcases hs with rfl | rfl
  ·exact⟨_,.inl rfl,fun Q=>(Gg N _ _ _ _ _).1⟩
  ·exact⟨_,.inr rfl,fun Q=>(Gg N _ _ _ _ _).2⟩
 ·exact WT (hc.mem hx) (by rw[j6];exact h.pos) fun t ht=>by rw[j6];rw[ht] at hx;exact Ju hx
 ·exact TG (hc.mem hx) (hd Q _ hx)
noncomputable def QOH (Q:RQ) (l:List Int) (rs:List Bool):Prop:=∀ i,i<l.length→((Q i).1.length≤200∧(Q i).2.length≤200)∧(nY (Q i).1∧nY (Q i).2)∧bO (Q i).1 ((Gf l rs i).length:Int)∧bO (Q i).2 ((Gf l rs i).length:Int)
theorem CL.q0 (h:CL l rs):QOH Q0 l rs:=fun i hi=>by
 have:=(h.ch hi).length
 exact⟨by simp[Q0],⟨Pf,Pf⟩,vP (by omega),vP (by omega)⟩
theorem abV {Q:RQ} (h:CL l rs) (hQ:QOH Q l rs):mh eT [] (yz Q l rs):=by
 have hl:=j6 Q l rs
 have hlen:=h.len
 have hf:∀ f,f∈yz Q l rs→r6 f∧i64 f.2.2.1:=fun f hf=>by
  obtain⟨i,hi,rfl⟩:=List.mem_map.1 hf
  have hi:=List.mem_range.1 hi
  have hc:=h.ch hi
  have:=hc.length
  have:=hc.len
  obtain⟨⟨q1,q2⟩,⟨q3,q4⟩,_⟩:=hQ i hi
  exact⟨⟨by show qz.length≤300;decide,by show (Gf l rs i).length≤1000;omega,by show (Q i).1.length≤1000;omega,by show (Q i).2.length≤1000;omega,fun x hx=>(hc.mem hx).ok,q3,q4⟩,by show i64 (-1);unfold Go.Proofs.YthphehfgekjooaaGreatDoor.i64;decide⟩
 exact⟨⟨⟨by decide,by unfold Go.Proofs.YthphehfgekjooaaGreatDoor.i64 jv;decide +kernel⟩,by decide,(fun s hs=>by cases hs),by omega,fun f hx=>(hf f hx).1⟩,fun f hx=>(hf f hx).2⟩
theorem afm:cG eT [] (yz Q0 [0] []):=by
 have h:=vF (N:=1400) (by omega) (abV (l:=[0]) (rs:=[]) (Q:=Q0) ⟨by simp,by simp,by simp,fun x hx=>by rw[List.mem_singleton.1 hx];unfold iG;decide⟩ (CL.q0 ⟨by simp,by simp,by simp,fun x hx=>by rw[List.mem_singleton.1 hx];unfold iG;decide⟩)).1
 have k:TN 1400 (eT,[],yz Q0 [0] [])=some true:=by kernel_rfl
 rw[k] at h
 injection h with h
 exact of_decide_eq_true h.symm
theorem Nb:((List.range 20).all fun i=>nP (qp i)&&(qp i).length≤5&&(List.range i).all fun j=>qp j != qp i)=true:=by decide +kernel
theorem YZ {Q:RQ} (h:CL l rs) (hQ:QOH Q l rs):cG eT [] (yz Q l rs):=by
 obtain⟨h1,_,_,h4,_,h6⟩:=afm
 have hlen:=h.len
 have hpos:=h.pos
 refine⟨h1,by simp,by rw[j6];omega,h4,(fun s hs=>by cases hs),fun i hi=>?_⟩
 rw[j6] at hi
 have h7:=h6 0 (by decide)
 unfold Cu at h7 ⊢
 rw[Bool.and_eq_true,decide_eq_true_eq] at h7 ⊢
 rw[Gh hi]
 obtain⟨_,g2,g3,g4,g5,g6,_⟩:=h7.1
 have hn:=List.all_eq_true.1 Nb i (List.mem_range.2 (by omega))
 simp only[Bool.and_eq_true] at hn
 obtain⟨_,_,q5,q6⟩:=hQ i hi
 have hc:=h.ch hi
 have:=hc.length
 have:=hc.len
 refine⟨⟨hn.1.1,g2,g3,g4,g5,g6,⟨by show 1≤(Gf l rs i).length;omega,by show (Gf l rs i).length≤200;omega⟩,fun x hx=>(hc.mem hx).aM,q5,q6⟩,?_⟩
 rw[Bool.not_eq_true',decide_eq_false_iff_not]
 rintro⟨j,hj,e⟩
 rw[Gh hi,Gh (show j<l.length by omega)] at e
 have:=List.all_eq_true.1 hn.2 j (List.mem_range.2 hj)
 rw[bne_iff_ne] at this
 exact this e
theorem yA:(iE qz).length≤60∧(V eT.length++(eT.flatMap mZ++(V 0++[]))).length≤60:=by decide +kernel
theorem afn {Q:RQ} (h:CL l rs) (hQ:QOH Q l rs):(fA eT [] (yz Q l rs)).length≤20000:=by
 have hlen:=h.len
 have h5:((yz Q l rs).flatMap lR).length≤(yz Q l rs).length*700:=fm fun f hf=>by
  obtain⟨i,hi,rfl⟩:=List.mem_map.1 hf
  have hi:=List.mem_range.1 hi
  have hc:=h.ch hi
  have hcl:=hc.length
  have:=hc.len
  obtain⟨_,_,q5,q6⟩:=hQ i hi
  have r1:=gy q5
  have r2:=gy q6
  have r3:=gD (Q i).1
  have r4:=gD (Q i).2
  have h1:=Ga (Gf l rs i)
  have h2:=cO (Gf l rs i).length
  have h3:=cO (qp i).length
  have h4:=cO (0:Int).toNat
  have h6:=cO (Ce (-1))
  have hn:=List.all_eq_true.1 Nb i (List.mem_range.2 (by omega))
  simp only[Bool.and_eq_true,decide_eq_true_eq] at hn
  have h7:=yA.1
  have hb:(bx (qp i)).length=(qp i).length:=by simp[bx]
  show (said (qp i)++(V (0:Int).toNat++(V (Ce (-1))++(iE qz++(V (Gf l rs i).length++((Gf l rs i).flatMap encI++(ju (Q i).1++ju (Q i).2))))))).length≤700
  unfold said
  simp only[List.length_append]
  omega
 have h8:=yA.2
 have h9:=cO (yz Q l rs).length
 have hfl:=j6 Q l rs
 show (V eT.length++(eT.flatMap mZ++(V 0++([]++(V (yz Q l rs).length++(yz Q l rs).flatMap lR))))).length≤20000
 simp only[List.length_append,List.length_nil] at h8 ⊢
 omega
theorem Px {N:Nat} (hN:14000000<N) (h:CL l rs):∃ ts xs fs,F7 (N+400) (ts,xs,fs)=some true∧F6 (N+400) (l,rs)=some (ts,xs,fs,0):=by
 have hpos:=h.pos
 have hlen:=h.len
 have hrs:=h.rs
 have hall:∀ i,∃ SL:List cI×List cI,i<l.length→(∀ Q:RQ,IC (N+400) (eT,[],yz Q l rs,(i:Int))=some (SL.1,SL.2,0,0))∧(SL.1.length≤200∧SL.2.length≤200)∧(nY SL.1∧nY SL.2)∧bO SL.1 ((Gf l rs i).length:Int)∧bO SL.2 ((Gf l rs i).length:Int):=fun i=>by
  by_cases hi:i<l.length
  ·obtain ⟨S, L, g⟩ := Je (N := N + 340 + 60) (by omega) (h.abK (N := N + 340) (by omega) hi) (f := (i : Int)) fun Q => aT (sP hi)
   exact⟨(S,L),fun _=>g⟩
  ·exact⟨([],[]),fun h=>absurd h hi⟩
 obtain⟨Qd,hQd⟩:=Classical.skolem.1 hall
 have hQ:QOH Qd l rs:=fun i hi=>(hQd i hi).2
 have Jk:∀ i,i<l.length→∀ Q:RQ,IC (N+400) (eT,[],yz Q l rs,(i:Int))=some ((Qd i).1,(Qd i).2,0,0):=fun i hi=>(hQd i hi).1
 have abN:RH (N+400) (eT,[],yz Q0 l rs)=some 0:=by
  rw[BG (by omega) (abV h h.q0),yw (YZ h h.q0) (afn h h.q0)]
 refine⟨eT,[],yz Qd l rs,accepted (by omega) (abV h hQ) (YZ h hQ) (afn h hQ) (fun f hf=>?_) (fun i f hf=>?_),?_⟩
 ·obtain ⟨i, hi, rfl⟩ := List.mem_map.1 hf
  exact (hQ i (List.mem_range.1 hi)).1
 ·have hi : i < l.length := by have := aN hf; rw [j6] at this; exact this
  rw[sP hi] at hf
  rw[←Option.some.inj hf]
  exact⟨0,Jk i hi Qd⟩
 ·have Jl := LR (N := N + 340) h.len h.rs h.i64
  rw[show N+340+60=N+400 from rfl] at Jl
  have abO:=Ea (N:=N+400) (ts:=eT) (xs:=[]) (fs:=yz Q0 l rs) (D:=yz Qd l rs) (by omega) (by rw[j6,j6]) (by rw[j6];omega) (fun i x hx=>by
   have hi:i<l.length:=by have:=aN hx;rw[j6] at this;exact this
   have hc:=h.ch hi
   have hcl:=hc.length
   have hcp:=hc.len
   rw[sP hi] at hx
   have:=B3 (f:=fnH Q0 l rs i) abN (sP hi) (by show qz.length≤1000;decide) (by show (Gf l rs i).length≤1000;omega) (Jk i hi Q0)
   rw[this,←Option.some.inj hx];rfl)
  have hw:ah ((l.length:Int)-1)=(rs.length:Int):=by rw[bn (by omega)];omega
  rw[F6.eq_1,decide_eq_false (show ¬(l.length:Int)<1 by omega),ai,decide_eq_false (show ¬(l.length:Int)>20 by omega),ai,hw,show ((rs.length:Int) != (rs.length:Int))=false by simp,Option.bind_some,ai]
  have abW:f6.ct (N+400) (N+400) (l,rs,l,(l.length:Int),0,[(2,0,0,[]),(1,0,0,[])],[])=some (eT,yz Q0 l rs):=Jl
  rw[abW,Option.bind_some,abO]
  rfl
end
end Go.Proofs.YthphehfgekjooaaGreatDoor
namespace Go.Proofs.YthphehfgekjooaaGreatDoor
open Go Go.bq Go.Sym
open Classical
theorem WV (N:Nat):F4 (N+1000) ()=some true:=by kernel_rfl
theorem Py (N:Nat) (x:Int):rL N x=rL N (max x 0):=by
 rw[rL.eq_1,rL.eq_1,show max (max x 0) 0=max x 0 by omega]
theorem Pz {N n:Nat} (hn:n≤9223372036854775807):rL N (n:Int)=rL N ((n % 1024:Nat):Int):=by
 have h1:∀ m:Nat,m≤9223372036854775807→Int.tmod (max (m:Int) 0) 32=((m % 32:Nat):Int):=fun m _=>by
  rw[show max (m:Int) 0=(m:Int) by omega,show (32:Int)=((32:Nat):Int) from rfl,vB]
 have h2:∀ m:Nat,m≤9223372036854775807→Int.tmod (ah (Int.tdiv (max (m:Int) 0) 32)) 32=((m / 32 % 32:Nat):Int):=fun m hm=>by
  rw[show max (m:Int) 0=(m:Int) by omega,show (32:Int)=((32:Nat):Int) from rfl,IG,lP (by omega),vB]
 rw[rL.eq_1,rL.eq_1]
 simp only[h1 n hn,h2 n hn,h1 (n % 1024) (by omega),h2 (n % 1024) (by omega),show n % 1024 % 32=n % 32 by omega,show n % 1024 / 32 % 32=n / 32 % 32 by omega]
theorem PA (N:Nat) {x:Int} (h:iG x):∃ n:Nat,n≤1023∧rL N x=rL N (n:Int):=by
 unfold iG at h
 refine⟨(max x 0).toNat % 1024,by omega,?_⟩
 rw[Py,←Pz (by omega),Int.toNat_of_nonneg (by omega)]
theorem Bs.all {N:Nat} : ∀ {xs:List Int} {b:List Instr},(∀ x,x∈xs→iG x)→∃ b',Bs (N+60) b xs b'
 |[],b,_=>⟨b,.nil⟩
 |x :: xs,b,h=>by
  obtain⟨n,hn,e⟩:=PA (N+60) (h x List.mem_cons_self)
  obtain⟨s,c,h1,h2,h3⟩:=D1 (N:=N) (n:=n) (by omega) (b.length:Int)
  have h1:rL (N+60) x=some s:=by rw[e,←h1,rL.eq_1,rL.eq_1];rfl
  obtain⟨b',hb⟩:=Bs.all (N:=N) (b:=b++c) fun x hx=>h x (List.mem_cons_of_mem _ hx)
  exact⟨b',.cons h1 h2 h3 hb⟩
theorem Gi {N:Nat} (hN:14001000<N) {l c:List Int} {rs:List Bool} (hl:∀ x,x∈l→iG x) (hc:∀ x,x∈c→iG x):F3 N (l,c,rs)=some true:=by
 obtain⟨M,rfl⟩:∃ M,N=M+1000:=⟨N-1000,by omega⟩
 have hal:=WV M
 rw[F3.eq_1]
 by_cases h1:(l.length:Int)>60
 ·rw[decide_eq_true h1,av,Option.bind_some,av,hal];rfl
 rw[decide_eq_false h1,ai]
 by_cases h2:(c.length:Int)<1
 ·rw[decide_eq_true h2,av,Option.bind_some,av,hal];rfl
 rw[decide_eq_false h2,ai]
 by_cases h3:(c.length:Int)>20
 ·rw[decide_eq_true h3,av,Option.bind_some,av,hal];rfl
 rw[decide_eq_false h3,ai,Option.bind_some,bn (by omega)]
 by_cases h4:(rs.length:Int)=(c.length:Int)-1
 case neg=>
  rw[show ((rs.length:Int) != (c.length:Int)-1)=true from bne_iff_ne.2 h4,av,hal];rfl
 rw[show ((rs.length:Int) != (c.length:Int)-1)=false by rw[h4];simp,ai]
 obtain⟨B,hB⟩:=Bs.all (N:=M+940) (b:=yS) hl
 obtain⟨hg,hlB⟩:=WQ (by omega) hB
 obtain⟨ts,xs,fs,g1,g2⟩:=Tu (N:=M+600) (by omega) hg hlB
 obtain⟨ts',xs',fs',k1,k2⟩:=Px (N:=M+600) (by omega) (l:=c) (rs:=rs) ⟨by omega,by omega,by omega,hc⟩
 have g2:=g2 l (by omega) hB
 rw[show M+1000=M+600+400 from rfl] at hal ⊢
 simp only[g2,k2,Option.bind_some,show ((0:Int)==0)=true from rfl,av,g1,k1,hal]
theorem TH {b:List Int} (h:(Ty.sl (.int .i64)).ok b):∀ x,x∈b→iG x:=fun x hx=>⟨(h.2 x hx).1,(h.2 x hx).2⟩
end Go.Proofs.YthphehfgekjooaaGreatDoor
