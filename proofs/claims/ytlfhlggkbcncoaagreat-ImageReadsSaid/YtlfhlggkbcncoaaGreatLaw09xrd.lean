/- The plain law, in one text. -/
import Derived.Test.YtlfhlggkbcncoaaGreatLaw09xrdA
namespace Go.Proofs.YtlfhlggkbcncoaaGreat
set_option linter.unusedSimpArgs false
set_option linter.unusedVariables false
open Go Go.Eng Go.Sym
open Go Go.Eng Go.Sym
open Go Go.Eng Go.Sym
open Go Go.Eng Go.Sym
open Go Go.Eng Go.Sym
open Classical
open Go Go.Eng Go.Sym
open Classical
open Go Go.Eng Go.Sym
open Classical
open Go Go.Eng Go.Sym
open Classical
open Go Go.Eng Go.Sym
open Classical
open Go Go.Eng Go.Sym
open Classical
open Go Go.Eng Go.Sym
open Classical
open Go Go.Eng Go.Sym
open Classical
open Go Go.Eng Go.Sym
open Classical
open Go Go.Eng Go.Sym
open Classical
open Go Go.Eng Go.Sym
open Classical
open Go Go.Eng Go.Sym
open Classical
theorem Rev.rep {α : Type} {p:Rdr α} {e : α→List Int} {ok : α→Prop} (h:Rev p e ok) (n:Nat):Rev (pRep p n) (fun l=>l.flatMap e) (fun l=>l.length=n∧∀ x,x∈l→ok x):=by
 refine⟨fun l r ⟨h1,h2⟩=>?_,fun s l r hb hs=>?_⟩
 ·have key : ∀ i, i ≤ l.length → pRep p i (l.flatMap e ++ r) = some (l.take i, (l.drop i).flatMap e ++ r) := by
   intro i
   induction i with
   |zero=>intro _;rfl
   |succ i ih=>
    intro hi
    have hx:=List.getElem?_eq_getElem (show i<l.length by omega)
    simp only[pRep,ih (by omega)]
    rw[List.drop_eq_getElem_cons (by omega),List.flatMap_cons,List.append_assoc,h.fwd _ _ (h2 _ (List.getElem_mem _))]
    simp only
    rw[take_succ hx]
  have:=key l.length (Nat.le_refl _)
  rw[h1] at this
  rw[this,←h1]
  simp
 ·induction n generalizing l r with
  |zero=>
   simp only[pRep,Option.some.injEq,Prod.mk.injEq] at hs
   obtain⟨rfl,rfl⟩:=hs
   exact⟨⟨rfl,fun x hx=>by cases hx⟩,rfl⟩
  | succ n ih =>
   simp only[pRep] at hs
   split at hs
   ·rename_i xs r0 h1
    split at hs
    ·rename_i x r' h2
     injection hs with hs;injection hs with h3 h4;subst h3 h4
     obtain⟨⟨g1,g2⟩,g3⟩:=ih _ _ h1
     have hb0:Byt r0:=by rw[g3] at hb;exact hb.right
     obtain⟨g4,g5⟩:=h.bwd r0 x _ hb0 h2
     refine⟨⟨by simp[g1],fun y hy=>?_⟩,by rw[g3,g5];simp[List.append_assoc]⟩
     rcases List.mem_append.1 hy with hy|hy
     ·exact g2 y hy
     ·rw[List.mem_singleton.1 hy];exact g4
    ·cases hs
   ·cases hs
theorem Rev.congr {α : Type} {p:Rdr α} {e e' : α→List Int} {ok : α→Prop} (h:Rev p e ok) (he:∀ x,ok x→e x=e' x):Rev p e' ok:=
 ⟨fun x r hx => by rw [← he x hx]; exact h.fwd x r hx, fun s x r hb hs => by
  obtain⟨h1,h2⟩:=h.bwd s x r hb hs
  exact⟨h1,by rw[←he x h1];exact h2⟩⟩
noncomputable def pvF:Nat→List Int→Option (Nat×List Int)
 |_,[]=>none
 |0,b :: r=>if b=1 then some (1,r) else none
 |k+1,b :: r=>if b<128 then (if k≠8∧b=0 then none else some (b.toNat,r)) else match pvF k r with
  |some (n,r')=>some (b.toNat % 128+128*n,r')
  |none=>none
theorem pvF_enc:∀ (k n:Nat) (r:List Int),(k≤8→1≤n)→n<2*128 ^ k→k≤9→pvF k (vary k n++r)=some (n,r)
 |0,n,r,h1,h2,_=>by
  have:n=1:=by have:=h1 (by omega);omega
  subst this
  rfl
 | k + 1, n, r, h1, h2, h9 => by
  unfold vary
  split
  ·rename_i hn
   simp only[List.cons_append,List.nil_append,pvF]
   rw[if_pos (by omega),if_neg (by rintro⟨g1,g2⟩;have:=h1 (by omega);omega),Int.toNat_natCast]
  ·rename_i hn
   have ih:=pvF_enc k (n / 128) r (fun _=>by omega) (by rw[Nat.pow_succ] at h2;omega) (by omega)
   simp only[List.cons_append,pvF]
   rw[if_neg (by omega),ih]
   simp only[Option.some.injEq,Prod.mk.injEq,and_true]
   omega
theorem pvF_dec:∀ (k:Nat) (s:List Int) (n:Nat) (r:List Int),Byt s→k≤9→pvF k s=some (n,r)→(k≤8→1≤n)∧n<2*128 ^ k∧s=vary k n++r
 |_,[],_,_,_,_,h=>by simp[pvF] at h
 | 0, b :: s, n, r, hb, _, h => by
  simp only[pvF] at h
  split at h
  ·rename_i h1
   injection h with h;injection h with h2 h3;subst h1 h2 h3
   exact⟨fun _=>by omega,by omega,rfl⟩
  ·cases h
 | k + 1, b :: s, n, r, hb, h9, h => by
  have hb0:=hb b List.mem_cons_self
  simp only[pvF] at h
  split at h
  ·rename_i h1
   split at h
   ·cases h
   ·rename_i h2
    injection h with h;injection h with h3 h4;subst h3 h4
    have hp:128≤2*128 ^ (k+1):=by rw[Nat.pow_succ];have:=Nat.one_le_two_pow (n:=7*k);have:1≤128 ^ k:=Nat.one_le_pow _ _ (by omega);omega
    refine⟨fun h8=>?_,by omega,?_⟩
    ·have : ¬ b = 0 := fun h0 => h2 ⟨by omega, h0⟩
     omega
    ·rw [vary, if_pos (by omega)]
     simp only[List.cons_append,List.nil_append,List.cons.injEq,and_true]
     omega
  ·rename_i h1
   split at h
   ·rename_i m r' h2
    injection h with h;injection h with h3 h4;subst h3 h4
    obtain⟨g1,g2,g3⟩:=pvF_dec k s m r' (fun x hx=>hb x (List.mem_cons_of_mem _ hx)) (by omega) h2
    have g1:=g1 (by omega)
    refine⟨fun _=>by omega,by rw[Nat.pow_succ];omega,?_⟩
    rw[vary,if_neg (by omega),show (b.toNat % 128+128*m) / 128=m by omega,g3]
    simp only[List.cons_append,List.cons.injEq,and_true]
    omega
   ·cases h
noncomputable def pv:Rdr Nat:=pvF 9
theorem pv_inv:Rev pv V (fun n=>n<18446744073709551616):=
 ⟨fun n r h => pvF_enc 9 n r (fun h => by omega) (by omega) (by omega), fun s n r hb h => by
  obtain⟨_,h2,h3⟩:=pvF_dec 9 s n r hb (by omega) h
  exact⟨by omega,h3⟩⟩
noncomputable def pN (m:Nat):Rdr Nat:=pFlt pv fun n=>decide (n≤m)
noncomputable def pI (m:Nat):Rdr Int:=pMap (pN m) fun n=>(n:Int)
theorem pN_inv {m:Nat} (hm:m<18446744073709551616):Rev (pN m) V (fun n=>n≤m):=
 pv_inv.flt.mono fun n=>by
  constructor
  ·intro h;exact⟨by omega,decide_eq_true h⟩
  ·intro h;exact of_decide_eq_true h.2
theorem pI_inv {m:Nat} (hm:m<18446744073709551616):Rev (pI m) (fun v=>V v.toNat) (fun v=>0≤v∧v≤m):=
 (pN_inv hm).map _ (fun v=>v.toNat) (fun n h=>⟨by omega,by simp⟩) fun v h=>⟨by omega,by omega⟩
noncomputable def unzig (n:Nat):Int:=if n % 2=0 then ((n / 2:Nat):Int) else -((n / 2:Nat):Int)-1
theorem unzig_zig (v:Int):unzig (zig v)=v:=by unfold unzig zig;split<;>split<;>omega
theorem zig_unzig (n:Nat):zig (unzig n)=n:=by unfold unzig zig;split<;>split<;>omega
noncomputable def pS:Rdr Int:=pMap pv unzig
theorem unzig_bd {n:Nat} (h:n<18446744073709551616):i64 (unzig n):=by unfold unzig i64;split<;>omega
theorem pS_inv:Rev pS (fun v=>V (zig v)) i64:=
 pv_inv.map _ zig (fun n h=>⟨unzig_bd h,by rw[zig_unzig]⟩) fun v h=>⟨zig_lt h,unzig_zig v⟩
noncomputable def pCnt {α : Type} (m:Nat) (p:Rdr α):Rdr (List α):=pMap (pThen (pN m) (pRep p)) fun x=>x.2
theorem pCnt_rev {α : Type} {p:Rdr α} {e : α→List Int} {ok : α→Prop} (h:Rev p e ok) {m:Nat} (hm:m<1000000):Rev (pCnt m p) (fun l=>V l.length++l.flatMap e) (fun l=>l.length≤m∧∀ x,x∈l→ok x):=
 ((pN_inv (by omega)).then fun n _ => h.rep n).map _ (fun l => (l.length, l)) (fun ⟨n, l⟩ h => by
  obtain⟨h1,h2,h3⟩:=h
  simp only at h1 h2 h3
  subst h2
  exact⟨⟨h1,h3⟩,rfl⟩) fun l h=>⟨⟨h.1,rfl,h.2⟩,rfl⟩
theorem pCnt_eq {α : Type} (m:Nat) (p:Rdr α) (s:List Int):pCnt m p s=(pI m s).bind fun x=>pRep p x.1.toNat x.2:=by
 unfold pCnt pMap pThen pI pMap
 cases pN m s with
 |none=>rfl
 |some x=>
  simp only[obs,Option.map_some,Int.toNat_natCast,Option.map_map]
  cases pRep p x.1 x.2<;>rfl
noncomputable def pBytes (n:Nat):Rdr (List UInt8):=fun s=>if n≤s.length then some ((s.take n).map fun c=>UInt8.ofNat c.toNat,s.drop n) else none
theorem ofNat_toNat8 (c:UInt8):UInt8.ofNat ((c.toNat:Int)).toNat=c:=by simp
theorem bytesL_ofNat:∀ {s:List Int},Byt s→bytesL (s.map fun c=>UInt8.ofNat c.toNat)=s
 |[],_=>rfl
 |c :: s,h=>by
  have hc:=h c List.mem_cons_self
  have ih:=bytesL_ofNat (s:=s) fun x hx=>h x (List.mem_cons_of_mem _ hx)
  unfold bytesL at ih ⊢
  simp only[List.map_cons,List.cons.injEq]
  refine⟨?_,ih⟩
  rw[UInt8.toNat_ofNat_of_lt' (by show c.toNat<256;omega)]
  omega
theorem map_bytesL (x:List UInt8):(bytesL x).map (fun (c:Int)=>UInt8.ofNat c.toNat)=x:=by
 unfold bytesL
 rw[List.map_map]
 conv=>rhs;rw[←List.map_id x]
 exact List.map_congr_left fun c _=>ofNat_toNat8 c
theorem pBytes_inv (n:Nat):Rev (pBytes n) bytesL (fun x=>x.length=n):=by
 refine⟨fun x r h=>?_,fun s x r hb hs=>?_⟩
 ·unfold pBytes
  have hl:=bytesL_len x
  rw[if_pos (by rw[List.length_append];omega),List.take_append_of_le_length (by omega),List.take_of_length_le (by omega),List.drop_append_of_le_length (by omega),List.drop_of_length_le (by omega),map_bytesL]
  rfl
 ·unfold pBytes at hs
  split at hs
  ·injection hs with hs; injection hs with h1 h2; subst h1 h2
   refine⟨by rw[List.length_map,List.length_take];omega,?_⟩
   rw[bytesL_ofNat fun c hc=>hb c (List.mem_of_mem_take hc),List.take_append_drop]
  ·cases hs
noncomputable def pText (m:Nat):Rdr (List UInt8):=pMap (pThen (pN m) pBytes) fun x=>x.2
theorem pText_inv {m:Nat} (hm:m<18446744073709551616):Rev (pText m) said (fun x=>x.length≤m):=
 ((pN_inv hm).then fun n _ => pBytes_inv n).map _ (fun x => (x.length, x)) (fun x h => by
  obtain⟨h1,h2⟩:=h
  exact⟨by omega,by rw[said,h2]⟩) fun x h=>⟨⟨h,rfl⟩,rfl⟩
structure Lim where
 ty:Nat
 len:Nat
 name:Nat
 flds:Nat
 text:Nat
 types:Nat
 texts:Nat
 funcs:Nat
 params:Nat
 slots:Nat
 code:Nat
noncomputable def pField (a b:Nat):Rdr Field:=pThen (pText a) fun _=>pI b
noncomputable def fldOK (a b:Nat) (f:Field):Prop:=f.1.length≤a∧0≤f.2∧f.2≤b
theorem pField_inv {a b:Nat} (ha:a<1000000) (hb:b<1000000):Rev (pField a b) fieldE (fldOK a b):=
 (pText_inv (by omega)).then fun _ _=>pI_inv (by omega)
noncomputable def pFields (a b m:Nat):Rdr (List Field):=pCnt m (pField a b)
theorem pFields_inv {a b m:Nat} (ha:a<1000000) (hb:b<1000000) (hm:m<1000000):Rev (pFields a b m) fieldsE (fun l=>l.length≤m∧∀ f,f∈l→fldOK a b f):=pCnt_rev (pField_inv ha hb) hm
noncomputable def pByte:Rdr Int
 |[]=>none
 |b :: r=>some (b,r)
theorem pByte_inv:Rev pByte (fun b=>[b]) (fun _=>True):=
 ⟨fun _ _ _ => rfl, fun s x r _ h => by
  cases s with
  |nil=>cases h
  |cons b s=>injection h with h;injection h with h1 h2;subst h1 h2;exact⟨trivial,rfl⟩⟩
noncomputable def pOne {α : Type} (x : α):Rdr α:=fun s=>some (x,s)
theorem pOne_inv {α : Type} (x : α):Rev (pOne x) (fun _=>[]) (fun y=>y=x):=
 ⟨fun y r h=>by subst h;rfl,fun s y r _ h=>by injection h with h;injection h with h1 h2;subst h1 h2;exact⟨rfl,rfl⟩⟩
noncomputable def pKind (L:Lim) (k:Int):Rdr (Int×Int×List Field):=
 if k=4∨k=7 then pMap (pI L.ty) fun v=>(v,0,[]) else if k=6 then pMap (pThen (pI L.ty) fun _=>pI L.len) fun v=>(v.1,v.2,[]) else if k=5 then pMap (pFields L.name L.ty L.flds) fun l=>(0,0,l) else pOne (0,0,[])
noncomputable def kindOKs (L:Lim) (k:Int) (t:Int×Int×List Field):Prop:=
 if k=4∨k=7 then (0≤t.1∧t.1≤L.ty)∧t.2=(0,[]) else if k=6 then (0≤t.1∧t.1≤L.ty)∧(0≤t.2.1∧t.2.1≤L.len)∧t.2.2=[] else if k=5 then t.1=0∧t.2.1=0∧t.2.2.length≤L.flds∧∀ f,f∈t.2.2→fldOK L.name L.ty f else t=(0,0,[])
structure Lim.OK (L:Lim):Prop where
 ty:L.ty<1000000
 len:L.len<1000000
 name:L.name<1000000
 flds:L.flds<1000000
 text:L.text<1000000
 types:L.types<1000000
 texts:L.texts<1000000
 funcs:L.funcs<1000000
 params:L.params<1000000
 slots:L.slots<1000000
 code:L.code<1000000
noncomputable def kindE (k:Int) (t:Int×Int×List Field):List Int:=if k=4∨k=7 then V t.1.toNat else if k=6 then V t.1.toNat++V t.2.1.toNat else if k=5 then fieldsE t.2.2 else []
theorem pKind_inv {L:Lim} (hL:L.OK) (k:Int):Rev (pKind L k) (kindE k) (kindOKs L k):=by
 unfold pKind kindE kindOKs
 by_cases h1:k=4∨k=7
 ·simp only [if_pos h1]
  exact (pI_inv (by have:=hL.ty;omega)).map _ (fun t=>t.1) (fun v h=>⟨⟨h,rfl⟩,rfl⟩) fun t h=>⟨h.1,Prod.ext rfl h.2.symm⟩
 ·simp only [if_neg h1]
  by_cases h2:k=6
  ·simp only [if_pos h2]
   exact ((pI_inv (by have:=hL.ty;omega)).then fun _ _=>pI_inv (by have:=hL.len;omega)).map _ (fun t=>(t.1,t.2.1)) (fun v h=>⟨⟨h.1,h.2,rfl⟩,rfl⟩) fun t h=>⟨⟨h.1,h.2.1⟩,Prod.ext rfl (Prod.ext rfl h.2.2.symm)⟩
  ·simp only [if_neg h2]
   by_cases h3:k=5
   ·simp only [if_pos h3]
    exact (pFields_inv hL.name hL.ty hL.flds).map _ (fun t=>t.2.2) (fun v h=>⟨⟨rfl,rfl,h.1,h.2⟩,rfl⟩) fun t h=>⟨⟨h.2.2.1,h.2.2.2⟩,Prod.ext h.1.symm (Prod.ext h.2.1.symm rfl)⟩
   ·simp only [if_neg h3]
    exact pOne_inv _
noncomputable def pType (L:Lim):Rdr GType:=pThen pByte (pKind L)
theorem pType_inv {L:Lim} (hL:L.OK):Rev (pType L) typeE (fun t=>kindOKs L t.1 t.2):=by
 have:=(pByte_inv).then fun k _=>pKind_inv hL k
 exact this.mono fun t=>⟨fun h=>⟨trivial,h⟩,fun h=>h.2⟩
noncomputable def pOp (c:UInt8):Rdr Int:=if c=45 then pOne 0 else if sgn c=true then pS else pMap pv fun n=>min (n:Int) 1048576
noncomputable def opOK (c:UInt8) (v:Int):Prop:=kindOK c=true∧fits c v=true
theorem fits_bd {c:UInt8} {v:Int} (h:fits c v=true) (hs:sgn c=false):0≤v∧v≤199:=by
 unfold fits U at h
 simp only[sgn,Bool.or_eq_false_iff,beq_eq_false_iff_ne] at hs
 obtain⟨s1,s2,s3⟩:=hs
 repeat' split at h
 all_goals first|contradiction|(rw[Bool.and_eq_true,decide_eq_true_eq,decide_eq_true_eq] at h;simp only at h;omega)
theorem fits_i64 {c:UInt8} {v:Int} (h:fits c v=true):i64 v:=by
 unfold fits U at h
 unfold i64
 repeat' split at h
 all_goals (rw[Bool.and_eq_true,decide_eq_true_eq,decide_eq_true_eq] at h;simp only at h;omega)
theorem fits_none {v:Int} (h:fits 45 v=true):v=0:=by
 simp[fits,U] at h
 omega
theorem pOp_enc {c:UInt8} {v:Int} (h:fits c v=true) (r:List Int):pOp c (encK c v++r)=some (v,r):=by
 unfold pOp encK
 by_cases h1:c=45
 ·subst h1
  simp only[if_true]
  rw[fits_none h];rfl
 ·rw [if_neg h1, if_neg h1]
  by_cases h2:sgn c=true
  ·have : c = 110 ∨ c = 103 ∨ c = 101 := sgn_iff.1 h2
   rw[if_pos h2,if_pos this]
   exact pS_inv.fwd v r (fits_i64 h)
  ·have h3 : ¬ (c = 110 ∨ c = 103 ∨ c = 101) := fun e => h2 (sgn_iff.2 e)
   have hv:=fits_bd h (by simpa using h2)
   rw[if_neg h2,if_neg h3]
   simp only[pMap,pv_inv.fwd v.toNat r (by omega),Option.map_some,Option.some.injEq,Prod.mk.injEq,and_true]
   omega
theorem pOp_dec {c:UInt8} {s r:List Int} {v:Int} (hb:Byt s) (h:pOp c s=some (v,r)) (hf:fits c v=true):s=encK c v++r:=by
 unfold pOp at h
 unfold encK
 by_cases h1:c=45
 ·subst h1
  simp only[if_true] at h ⊢
  injection h with h;injection h with h2 h3
 ·rw [if_neg h1] at h ⊢
  by_cases h2:sgn c=true
  ·have : c = 110 ∨ c = 103 ∨ c = 101 := sgn_iff.1 h2
   rw[if_pos h2] at h
   rw[if_pos this]
   exact (pS_inv.bwd s v r hb h).2
  ·have h3 : ¬ (c = 110 ∨ c = 103 ∨ c = 101) := fun e => h2 (sgn_iff.2 e)
   have hv:=fits_bd hf (by simpa using h2)
   rw[if_neg h2] at h
   rw[if_neg h3]
   unfold pMap at h
   obtain⟨⟨n,r'⟩,h4,h5⟩:=Option.map_eq_some_iff.1 h
   simp only[Prod.mk.injEq] at h5
   obtain⟨h5,rfl⟩:=h5
   have:v.toNat=n:=by omega
   rw[this]
   exact (pv_inv.bwd s n _ hb h4).2
noncomputable def pInstr:Rdr Instr
 |[]=>none
 |op :: r=>match shp op with
  |none=>none
  |some (a,b,c)=>(pOp a r).bind fun x=>(pOp b x.2).bind fun y=>(pOp c y.2).bind fun z=>if chkI (op,x.1,y.1,z.1)=true then some ((op,x.1,y.1,z.1),z.2) else none
theorem pInstr_inv:Rev pInstr encI (fun x=>chkI x=true):=by
 refine⟨fun⟨op,x,y,z⟩ r h=>?_,fun s ⟨op,x,y,z⟩ r hb hs=>?_⟩
 ·have h0 := h
  unfold chkI at h
  unfold encI
  cases hs:shp op with
  |none=>simp only[hs] at h;cases h
  |some abc=>
   obtain⟨a,b,c⟩:=abc
   simp only[hs,Bool.and_eq_true] at h
   obtain⟨h1,h2,h3⟩:=h
   simp only[hs,List.cons_append,List.append_assoc,pInstr,pOp_enc h1,pOp_enc h2,pOp_enc h3,obs]
   rw[if_pos h0]
 ·cases s with
  |nil=>cases hs
  | cons o s =>
   simp only[pInstr] at hs
   split at hs
   ·cases hs
   ·rename_i a b c h0
    obtain⟨⟨x',r1⟩,h1,hs⟩:=Option.bind_eq_some_iff.1 hs
    obtain⟨⟨y',r2⟩,h2,hs⟩:=Option.bind_eq_some_iff.1 hs
    obtain⟨⟨z',r3⟩,h3,hs⟩:=Option.bind_eq_some_iff.1 hs
    simp only at h2 h3 hs
    split at hs
    ·rename_i hc
     injection hs with hs;injection hs with g1 g2
     simp only[Prod.mk.injEq] at g1
     obtain⟨rfl,rfl,rfl,rfl⟩:=g1
     subst g2
     refine⟨hc,?_⟩
     have hc2:=hc
     unfold chkI at hc2
     simp only[h0,Bool.and_eq_true] at hc2
     have hb0:Byt s:=fun x hx=>hb x (List.mem_cons_of_mem _ hx)
     have e1:=pOp_dec hb0 h1 hc2.1
     have hb1:Byt r1:=by rw[e1] at hb0;exact hb0.right
     have e2:=pOp_dec hb1 h2 hc2.2.1
     have hb2:Byt r2:=by rw[e2] at hb1;exact hb1.right
     have e3:=pOp_dec hb2 h3 hc2.2.2
     unfold encI
     simp only[h0,List.cons_append,List.append_assoc]
     rw[←e3,←e2,←e1]
    ·cases hs
open Go Go.Eng Go.Sym
open Classical
noncomputable def pPair:Rdr (Nat×Nat):=pThen pv fun _=>pv
noncomputable def accR:Nat→List (Nat×Nat)→List Run
 |_,[]=>[]
 |w,x :: r=>(((w+x.1:Nat):Int),(x.2:Int)) :: accR (w+x.1) r
noncomputable def rawOf:Int→List Run→List (Nat×Nat)
 |_,[]=>[]
 |w,x :: r=>((x.1-w).toNat,x.2.toNat) :: rawOf x.1 r
noncomputable def pairE (x:Nat×Nat):List Int:=V x.1++V x.2
theorem accR_len:∀ (l:List (Nat×Nat)) (w:Nat),(accR w l).length=l.length
 |[],_=>rfl
 |x :: r,w=>by simp only[accR,List.length_cons,accR_len r]
theorem accR_enc:∀ (l:List (Nat×Nat)) (w:Nat),encR w (accR w l)=l.flatMap pairE
 |[],_=>rfl
 |x :: r,w=>by
  simp only[accR,encR,List.flatMap_cons,pairE,accR_enc r,Int.toNat_natCast,show (((w+x.1:Nat):Int)-(w:Int)).toNat=x.1 by omega,List.append_assoc]
theorem accR_okR:∀ (l:List (Nat×Nat)) (w:Nat),(∀ x,x∈l→x.2<18446744073709551616)→okR (accR w l)
 |[],_,_=>fun _ h=>by cases h
 |x :: r,w,h=>fun y hy=>by
  rcases List.mem_cons.1 hy with rfl|hy
  ·have:=h x List.mem_cons_self;exact⟨by simp only;omega,by simp only;omega⟩
  ·exact accR_okR r _ (fun z hz=>h z (List.mem_cons_of_mem _ hz)) y hy
theorem accR_raw:∀ (l:List Run) (w:Nat),Inc w l→accR w (rawOf w l)=l
 |[],_,_=>rfl
 |x :: r,w,h=>by
  obtain⟨h1,h2,h3,h4⟩:=h
  simp only[rawOf,accR]
  rw[show w+(x.1-(w:Int)).toNat=x.1.toNat by omega]
  obtain⟨v,hv⟩:=Int.eq_ofNat_of_zero_le (show 0≤x.1 by omega)
  have ih:=accR_raw r v (by rw[←hv];exact h4)
  rw[hv,Int.toNat_natCast,ih]
  congr 1
  exact Prod.ext hv.symm (by simp only;omega)
theorem rawOf_bd:∀ (l:List Run) (w:Int),Inc w l→0≤w→∀ x,x∈rawOf w l→x.1<18446744073709551616∧x.2<18446744073709551616
 |[],_,_,_,x,hx=>by cases hx
 |y :: r,w,h,hw,x,hx=>by
  obtain⟨h1,h2,h3,h4⟩:=h
  rcases List.mem_cons.1 hx with rfl|hx
  ·exact⟨by simp only;omega,by simp only;omega⟩
  ·exact rawOf_bd r _ h4 (by omega) x hx
theorem rawOf_len:∀ (l:List Run) (w:Int),(rawOf w l).length=l.length
 |[],_=>rfl
 |x :: r,w=>by simp only[rawOf,List.length_cons,rawOf_len r]
noncomputable def pRaw (n:Nat):Rdr (List (Nat×Nat)):=pCnt n pPair
noncomputable def pRuns (n:Nat):Rdr (List Run):=if 1≤n∧n≤200 then pMap (pFlt (pRaw n) fun l=>decide (RunsOK (accR 0 l) n)) (accR 0) else fun _=>none
noncomputable def runsL (n:Nat) (l:List Run):Prop:=(1≤n∧n≤200)∧RunsOK l n∧okR l
theorem pPair_rev:Rev pPair pairE (fun x=>x.1<18446744073709551616∧x.2<18446744073709551616):=pv_inv.then fun _ _=>pv_inv
theorem pRaw_rev {n:Nat} (hn:n≤200):Rev (pRaw n) (fun l=>V l.length++l.flatMap pairE) (fun l=>l.length≤n∧∀ x,x∈l→x.1<18446744073709551616∧x.2<18446744073709551616):=pCnt_rev pPair_rev (by omega)
theorem pRuns_rev (n:Nat):Rev (pRuns n) runsE (runsL n):=by
 unfold pRuns
 by_cases hn:1≤n∧n≤200
 ·rw [if_pos hn]
  refine (pRaw_rev hn.2).flt.map _ (rawOf 0) (fun l h=>?_) fun l h=>?_
  ·obtain ⟨⟨h1, h2⟩, h3⟩ := h
   refine⟨⟨hn,of_decide_eq_true h3,accR_okR l 0 fun x hx=>(h2 x hx).2⟩,?_⟩
   have:=accR_enc l 0
   rw[runsE,accR_len]
   rw[show ((0:Nat):Int)=0 from rfl] at this
   rw[this]
  ·obtain ⟨_, h2, h3⟩ := h
   have hi:=h2.inc (by omega) h3
   have e:=accR_raw l 0 hi
   rw[show ((0:Nat):Int)=0 from rfl] at e
   exact⟨⟨⟨by rw[rawOf_len];exact runs_len h2,rawOf_bd l 0 hi (by omega)⟩,decide_eq_true (by rw[e];exact h2)⟩,e⟩
 ·rw [if_neg hn]
  exact⟨fun x r h=>absurd h.1 hn,fun s x r _ h=>by cases h⟩
noncomputable def pCode (L:Lim):Rdr (List Instr×List Run×List Run):=pThen (pCnt L.code pInstr) fun l=>pThen (pRuns l.length) fun _=>pRuns l.length
noncomputable def codeOK (L:Lim) (z:List Instr×List Run×List Run):Prop:=(z.1.length≤L.code∧∀ x,x∈z.1→chkI x=true)∧runsL z.1.length z.2.1∧runsL z.1.length z.2.2
noncomputable def codeE (z:List Instr×List Run×List Run):List Int:=V z.1.length++(z.1.flatMap encI++(runsE z.2.1++runsE z.2.2))
theorem pCode_rev {L:Lim} (hL:L.OK):Rev (pCode L) codeE (codeOK L):=
 ((pCnt_rev pInstr_inv hL.code).then fun l _=>(pRuns_rev l.length).then fun _ _=>pRuns_rev l.length).congr fun z _=>by simp only[codeE,List.append_assoc]
noncomputable def pFunc (L:Lim):Rdr Func:=pThen (pText L.name) fun _=>pThen (pI L.params) fun _=>pThen pS fun _=>pThen (pFields L.name L.ty L.slots) fun _=>pCode L
noncomputable def funcL (L:Lim) (f:Func):Prop:=
 f.1.length≤L.name∧(0≤f.2.1∧f.2.1≤L.params)∧i64 f.2.2.1∧(f.2.2.2.1.length≤L.slots∧∀ g,g∈f.2.2.2.1→fldOK L.name L.ty g)∧codeOK L f.2.2.2.2
theorem pFunc_rev {L:Lim} (hL:L.OK):Rev (pFunc L) funcE (funcL L):=
 (pText_inv (by have:=hL.name;omega)).then fun _ _=>(pI_inv (by have:=hL.params;omega)).then fun _ _=>pS_inv.then fun _ _=>(pFields_inv hL.name hL.ty hL.slots).then fun _ _=>pCode_rev hL
noncomputable def pImg (L:Lim):Rdr Image:=pThen (pCnt L.types (pType L)) fun _=>pThen (pCnt L.texts (pText L.text)) fun _=>pCnt L.funcs (pFunc L)
noncomputable def imgL (L:Lim) (m:Image):Prop:=
 (m.1.length≤L.types∧∀ t,t∈m.1→kindOKs L t.1 t.2)∧(m.2.1.length≤L.texts∧∀ s,s∈m.2.1→s.length≤L.text)∧m.2.2.length≤L.funcs∧∀ f,f∈m.2.2→funcL L f
theorem pImg_rev {L:Lim} (hL:L.OK):Rev (pImg L) (fun m=>imageE m.1 m.2.1 m.2.2) (imgL L):=
 ((pCnt_rev (pType_inv hL) hL.types).then fun _ _=>(pCnt_rev (pText_inv (by have:=hL.text;omega)) hL.texts).then fun _ _=>pCnt_rev (pFunc_rev hL) hL.funcs).congr fun z _=>by simp only[imageE,List.append_assoc]
structure Lim.Wide (L:Lim):Prop where
 ok:L.OK
 ty:32≤L.ty
 len:16≤L.len
 name:16≤L.name
 flds:8≤L.flds
 text:64≤L.text
 types:32≤L.types
 texts:32≤L.texts
 funcs:32≤L.funcs
 params:16≤L.params
 slots:16≤L.slots
 code:200≤L.code
theorem FW.fld {L:Lim} (hL:L.Wide) {l:List Field} (h:FieldsOK l) {n:Int} (hn:n≤32) (hr:∀ f,f∈l→0≤f.2∧f.2<n):∀ f,f∈l→fldOK L.name L.ty f:=fun f hf=>by
 have h1:=nameB_len (fields_names h f hf)
 have h2:=hr f hf
 have:=hL.name;have:=hL.ty
 exact⟨by omega,by omega,by omega⟩
theorem TypeOK.kindOKs {L:Lim} (hL:L.Wide) {n i:Nat} {t:GType} (h:TypeOK n i t) (hn:n≤32) (hi:i≤32):kindOKs L t.1 t.2:=by
 have:=hL.ty;have:=hL.len;have:=hL.flds
 unfold TypeOK at h
 unfold Go.Proofs.YtlfhlggkbcncoaaGreat.kindOKs
 by_cases h1:t.1=1∨t.1=2∨t.1=3
 ·rw [if_pos h1] at h
  rw[if_neg (by omega),if_neg (by omega),if_neg (by omega)]
  exact Prod.ext h.1 (Prod.ext h.2.1 (List.eq_nil_of_length_eq_zero h.2.2))
 ·rw [if_neg h1] at h
  by_cases h2:t.1=4∨t.1=7
  ·rw [if_pos h2] at h ⊢
   exact⟨by omega,Prod.ext h.2.1 (List.eq_nil_of_length_eq_zero h.2.2)⟩
  ·rw [if_neg h2] at h ⊢
   by_cases h3:t.1=6
   ·rw [if_pos h3] at h ⊢
    exact⟨by omega,by omega,List.eq_nil_of_length_eq_zero h.2.2⟩
   ·rw [if_neg h3] at h ⊢
    by_cases h4:t.1=5
    ·rw [if_pos h4] at h ⊢
     exact⟨h.1,h.2.1,by omega,FW.fld hL h.2.2.2.1 (n:=i) (by omega) h.2.2.2.2⟩
    ·rw[if_neg h4] at h;exact h.elim
theorem FuncOK.funcL {L:Lim} (hL:L.Wide) {n:Nat} {f:Func} (h:FuncOK n f) (hn:n≤32) (hr:okR f.2.2.2.2.2.1∧okR f.2.2.2.2.2.2):funcL L f:=by
 obtain⟨h1,h2,h3,h4,h5,h6,h7,h8,h9,h10⟩:=h
 have:=hL.name;have:=hL.params;have:=hL.slots;have:=hL.code
 have:=nameB_len h1
 exact⟨by omega,by omega,⟨by omega,by omega⟩,⟨by omega,FW.fld hL h3 (by omega) h6⟩,⟨by omega,h8⟩,⟨h7,h9,hr.1⟩,h7,h10,hr.2⟩
theorem FineOK.imgL {L:Lim} (hL:L.Wide) {ts:List GType} {xs:List (List UInt8)} {fs:List Func} (h:FineOK ts xs fs) (hr:∀ f,f∈fs→okR f.2.2.2.2.2.1∧okR f.2.2.2.2.2.2):imgL L (ts,xs,fs):=by
 obtain⟨⟨t1,t2,_⟩,h2,h3,_,h5,h6⟩:=h
 have:=hL.types;have:=hL.texts;have:=hL.text;have:=hL.funcs
 refine⟨⟨show ts.length≤_ by omega,fun t ht=>?_⟩,⟨show xs.length≤_ by omega,fun s hs=>by have:=h5 s hs;omega⟩,show fs.length≤_ by omega,fun f hf=>?_⟩
 ·obtain ⟨i, hi, rfl⟩ := mem_getD ty0 ht
  have hi:i<ts.length:=hi
  exact (t2 i hi).kindOKs hL t1 (by omega)
 ·have hm := hr f hf
  obtain⟨i,hi,rfl⟩:=mem_getD fn0 hf
  have:=h6 i hi
  unfold okFn at this
  rw[Bool.and_eq_true,decide_eq_true_eq] at this
  exact this.1.funcL hL t1 hm
theorem img_read {L:Lim} (hL:L.Wide) {ts:List GType} {xs:List (List UInt8)} {fs:List Func} (h:FineOK ts xs fs) (hr:∀ f,f∈fs→okR f.2.2.2.2.2.1∧okR f.2.2.2.2.2.2) (r:List Int):pImg L (imageE ts xs fs++r)=some ((ts,xs,fs),r):=
 (pImg_rev hL.ok).fwd (ts,xs,fs) r (h.imgL hL hr)
open Go Go.Eng Go.Sym
open Classical
noncomputable def At (b s:List Int) (i:Int):Prop:=∃ pre,b=pre++s∧i=(pre.length:Int)
theorem At.next {b r:List Int} {x:Int} {i:Int} (h:At b (x :: r) i):At b r (i+1):=by
 obtain⟨pre,h1,h2⟩:=h
 exact⟨pre++[x],by rw[h1];simp,by rw[h2];simp⟩
theorem At.len {b s:List Int} {i:Int} (h:At b s i):i+s.length=b.length∧0≤i:=by
 obtain⟨pre,h1,h2⟩:=h
 rw[h1,h2,List.length_append];omega
theorem At.idx {b r:List Int} {x:Int} {i:Int} (h:At b (x :: r) i):idx b i=some x:=by
 obtain⟨pre,h1,h2⟩:=h
 exact idx_mid' h1 h2
theorem At.drop {b s:List Int} {i:Int} (h:At b s i):b.drop i.toNat=s:=by
 obtain⟨pre,h1,h2⟩:=h
 rw[h1,h2,Int.toNat_natCast]
 simp
theorem At.skip {b s:List Int} {i:Int} (h:At b s i) {n:Nat} (hn:n≤s.length):At b (s.drop n) (i+n):=by
 obtain⟨pre,h1,h2⟩:=h
 exact⟨pre++s.take n,by rw[h1,List.append_assoc,List.take_append_drop],by rw[h2,List.length_append,List.length_take];omega⟩
noncomputable def Fit (b:List Int):Prop:=Byt b∧b.length≤200000
theorem At.byt {b s:List Int} {i:Int} (h:At b s i) (hb:Fit b):Byt s:=by
 obtain⟨pre,h1,h2⟩:=h
 have:=hb.1
 rw[h1] at this
 exact this.right
theorem At.start (b:List Int):At b b 0:=⟨[],rfl,rfl⟩
theorem iand127:∀ a:Nat,a<256→iand .u8 ((a:Nat):Int) (127:Int)=((a % 128:Nat):Int):=by decide +kernel
theorem or_pow {a d t:Nat} (ha:a<2 ^ t):a ||| d*2 ^ t=a+d*2 ^ t:=by
 have:=Nat.two_pow_add_eq_or_of_lt (i:=t) (b:=a) ha d
 rw[Nat.mul_comm d,Nat.add_comm,this,Nat.or_comm]
theorem ior_pow {a d t:Nat} (ha:a<2 ^ t) (h:a+d*2 ^ t<18446744073709551616):ior .u64 (a:Int) ((d*2 ^ t:Nat):Int)=((a+d*2 ^ t:Nat):Int):=by
 unfold ior
 have e:(BitVec.ofInt IntKind.u64.bits (a:Int) ||| BitVec.ofInt IntKind.u64.bits ((d*2 ^ t:Nat):Int)).toNat=a+d*2 ^ t:=by
  show (BitVec.ofInt 64 (a:Int) ||| BitVec.ofInt 64 ((d*2 ^ t:Nat):Int)).toNat=_
  rw[BitVec.ofInt_natCast,BitVec.ofInt_natCast,BitVec.toNat_or,BitVec.toNat_ofNat,BitVec.toNat_ofNat,Nat.mod_eq_of_lt (by omega),Nat.mod_eq_of_lt (by omega),or_pow ha]
 rw[e];exact wu64_in (by omega)
theorem pow128 (t:Nat):2 ^ (7*t)=128 ^ t:=by rw[Nat.pow_mul]
theorem pow_mono {k t:Nat} (h:k≤t):128 ^ k≤128 ^ t:=Nat.pow_le_pow_right (by omega) h
theorem acc_bits {a t x:Nat} (ht:t≤9) (ha:a<128 ^ t) (hx:x<256) (h9:t=9→x≤1) :
  ior .u64 (a:Int) (wu64 ((wu64 (iand .u8 (x:Int) (127:Int)))*(2 ^ min (Int.toNat (wi64 ((7:Int)*(t:Int)))) 64)))=((a+(x % 128)*128 ^ t:Nat):Int):=by
 rw[iand127 x hx,wu64_nat (by omega),wi64_in (by omega),show (7:Int)*(t:Int)=((7*t:Nat):Int) by omega,Int.toNat_natCast,Nat.min_eq_left (by omega)]
 have e:((x % 128:Nat):Int)*2 ^ (7*t)=((x % 128*2 ^ (7*t):Nat):Int):=by rw[Int.natCast_mul,Int.natCast_pow];rfl
 have hlt:a+x % 128*2 ^ (7*t)<18446744073709551616:=by
  rw[pow128]
  by_cases h:t=9
  ·subst h
   have:=h9 rfl
   have h1:x % 128≤1:=by omega
   have h2:=Nat.mul_le_mul_right (128 ^ 9) h1
   omega
  ·have h1 : x % 128 ≤ 127 := by omega
   have h2:=Nat.mul_le_mul_right (128 ^ t) h1
   have h3:=pow_mono (show t≤8 by omega)
   omega
 rw[e,wu64_nat (by omega),ior_pow (by rw[pow128];exact ha) hlt,pow128]
theorem iand1 {n:Nat} (h:n<18446744073709551616):iand .u64 (n:Int) (1:Int)=((n % 2:Nat):Int):=by
 unfold iand
 have e:(BitVec.ofInt IntKind.u64.bits (n:Int) &&& BitVec.ofInt IntKind.u64.bits 1).toNat=n % 2:=by
  show (BitVec.ofInt 64 (n:Int) &&& BitVec.ofInt 64 1).toNat=_
  rw[BitVec.ofInt_natCast,show BitVec.ofInt 64 1=BitVec.ofNat 64 1 from rfl,BitVec.toNat_and,BitVec.toNat_ofNat,BitVec.toNat_ofNat,Nat.mod_eq_of_lt h]
  exact Nat.and_two_pow_sub_one_eq_mod n 1
 rw[e];exact wu64_in (by omega)
theorem unzig_bits {n:Nat} (h:n<18446744073709551616):ixor .i64 (wi64 (Int.fdiv (n:Int) 2)) (wi64 (0-(wi64 (iand .u64 (n:Int) (1:Int)))))=unzig n:=by
 rw[show (2:Int)=((2:Nat):Int) from rfl,fdiv_nat,wi64_nat (by omega),iand1 h,wi64_nat (by omega)]
 unfold unzig
 by_cases h2:n % 2=0
 ·rw [if_pos h2, h2]
  unfold ixor
  have e:(BitVec.ofInt IntKind.i64.bits ((n / 2:Nat):Int) ^^^ BitVec.ofInt IntKind.i64.bits (wi64 (0-((0:Nat):Int)))).toNat=n / 2:=by
   show (BitVec.ofInt 64 ((n / 2:Nat):Int) ^^^ BitVec.ofInt 64 (wi64 0)).toNat=_
   rw[show BitVec.ofInt 64 (wi64 0)=0#64 by decide,BitVec.xor_zero,BitVec.ofInt_natCast,BitVec.toNat_ofNat]
   omega
  rw[e];exact wi64_nat (by omega)
 ·rw [if_neg h2, show n % 2 = 1 by omega]
  unfold ixor
  have e:(BitVec.ofInt IntKind.i64.bits ((n / 2:Nat):Int) ^^^ BitVec.ofInt IntKind.i64.bits (wi64 (0-((1:Nat):Int)))).toNat=18446744073709551615-n / 2:=by
   show (BitVec.ofInt 64 ((n / 2:Nat):Int) ^^^ BitVec.ofInt 64 (wi64 (0-1))).toNat=_
   rw[show BitVec.ofInt 64 (wi64 (0-1))=BitVec.allOnes 64 by decide,BitVec.xor_allOnes,BitVec.toNat_not,BitVec.ofInt_natCast,BitVec.toNat_ofNat]
   omega
  rw[e]
  show IntKind.i64.wrap _=_
  rw[show ((18446744073709551615-n / 2:Nat):Int)=(-((n / 2:Nat):Int)-1)+18446744073709551616 by omega]
  have:=wi64_in (n:=-((n / 2:Nat):Int)-1) (by omega)
  have e2:∀ m:Int,IntKind.i64.wrap (m+18446744073709551616)=IntKind.i64.wrap m:=fun m=>by
   rw[IntKind.wrap_i64,IntKind.wrap_i64];omega
  rw[e2];exact this
section
variable {N:Nat} {b:List Int}
theorem check_at (hb:Fit b) {s:List Int} {i:Int} (h:At b s i):F50 N (b,i)=some 0:=by
 obtain⟨h1,h2⟩:=h.len
 have:=hb.2
 rw[F50_eq,decF (show ¬(b.length:Int)>200000 by omega),bif_r,decF (show ¬i<0 by omega),bif_r,decF (show ¬i>(b.length:Int) by omega)]
 rfl
theorem unvary_loop (m v:Int) (hb:Fit b):∀ (k:Nat) (s:List Int) (i:Int) (a f:Nat),k≤9→k<f→a<128 ^ (9-k)→At b s i→
  (∃ n r j,pvF k s=some (n,r)∧At b r j∧f20.L0_8 N f (m,(a:Int),((9-k:Nat):Int),b,i,v)=some (.inr (m,((a+n*128 ^ (9-k):Nat):Int),b,j,v)))∨
  (pvF k s=none∧∃ e t,e≠0∧f20.L0_8 N f (m,(a:Int),((9-k:Nat):Int),b,i,v)=some (.inl (0,e,t)))
 |_,[],i,a,f+1,_,_,_,hat=>by
  obtain⟨h1,h2⟩:=hat.len
  have hi:i=(b.length:Int):=by simpa using h1
  refine .inr ⟨by simp[pvF],24,0,by decide,?_⟩
  rw[f20.L0_8_succ,hi,beq_self_eq_true,bif_l]
 | 0, x :: s, i, a, f + 1, h9, hf, ha, hat => by
  obtain⟨h1,h2⟩:=hat.len
  have hx:=hat.byt hb x List.mem_cons_self
  have hne:(i==(b.length:Int))=false:=by rw[beq_eq_false_iff_ne];simp at h1;omega
  rw[f20.L0_8_succ]
  simp only[hne,bif_r,hat.idx,obs,Nat.sub_zero,show (((9:Nat):Int)==9)=true from rfl,bif_l]
  by_cases h3:x>1
  ·rw [decT h3, bif_l, obs, bif_l]
   exact .inr ⟨by simp only[pvF];rw[if_neg (by omega)],12,0,by decide,rfl⟩
  ·rw [decF h3, bif_r, decT (show ((9 : Nat) : Int) > 0 by decide), bif_l, obs]
   by_cases h4:x=0
   ·subst h4
    exact .inr ⟨by simp[pvF],12,0,by decide,rfl⟩
   ·have h5 : x = ((1 : Nat) : Int) := by omega
    subst h5
    refine .inl ⟨1,s,i+1,by simp[pvF],hat.next,?_⟩
    have hl:=hb.2
    rw[show (((1:Nat):Int)==0)=false from rfl,bif_r,chk_of (by decide),decT (show ((1:Nat):Int)<128 by decide),bif_l,wi64_in (n:=i+1) (by simp at h1;omega),acc_bits (by omega) ha (by omega) (fun _=>by omega)]
 | k + 1, x :: s, i, a, f + 1, h9, hf, ha, hat => by
  obtain⟨h1,h2⟩:=hat.len
  have hx:=hat.byt hb x List.mem_cons_self
  have hl:=hb.2
  have hne:(i==(b.length:Int))=false:=by rw[beq_eq_false_iff_ne];simp at h1;omega
  obtain⟨c,rfl⟩:=Int.eq_ofNat_of_zero_le hx.1
  have hi1:wi64 (i+1)=i+1:=wi64_in (by simp at h1;omega)
  have hk1:wi64 (((9-(k+1):Nat):Int)+1)=((9-k:Nat):Int):=by rw[wi64_in (by omega)];omega
  have hb8:(bif (((9-(k+1):Nat):Int)==9) then (bif (decide ((c:Int)>1)) then some true else (bif (decide (((9-(k+1):Nat):Int)>0)) then some ((c:Int)==0) else some false)) else (bif (decide (((9-(k+1):Nat):Int)>0)) then some ((c:Int)==0) else some false))=some (decide (k≠8∧(c:Int)=0)):=by
   rw[show (((9-(k+1):Nat):Int)==9)=false by rw[beq_eq_false_iff_ne];omega,bif_r]
   by_cases h8:k=8
   ·subst h8
    simp
   ·rw [decT (show ((9 - (k + 1) : Nat) : Int) > 0 by omega), bif_l]
    rw[beq_dec]
    simp[h8]
  rw[f20.L0_8_succ]
  simp only[hne,bif_r,hat.idx,obs,hb8,hi1,hk1]
  have hsh:(!decide ((wi64 ((7:Int)*((9-(k+1):Nat):Int)))<0))=true:=by rw[wi64_in (by omega),decF (by omega)];rfl
  rw[hsh,chk_true,acc_bits (by omega) ha (by omega) (fun _=>by omega)]
  by_cases h3:k≠8∧(c:Int)=0
  ·rw [decT h3, bif_l]
   refine .inr ⟨?_,12,0,by decide,rfl⟩
   simp only[pvF]
   rw[if_pos (by omega),if_pos h3]
  ·rw [decF h3, bif_r]
   by_cases h4:c<128
   ·rw [decT (show (c : Int) < 128 by omega), bif_l]
    refine .inl ⟨c,s,i+1,?_,hat.next,by rw[Nat.mod_eq_of_lt h4]⟩
    simp only[pvF]
    rw[if_pos (by omega),if_neg h3,Int.toNat_natCast]
   ·rw [decF (show ¬ (c : Int) < 128 by omega), bif_r]
    have hpw:128 ^ (9-k)=128*128 ^ (9-(k+1)):=by rw[show 9-k=(9-(k+1))+1 by omega,Nat.pow_succ,Nat.mul_comm]
    have hlt:a+c % 128*128 ^ (9-(k+1))<128 ^ (9-k):=by
     rw[hpw]
     have:=Nat.mul_le_mul_right (128 ^ (9-(k+1))) (show c % 128≤127 by omega)
     omega
    have hp:pvF (k+1) ((c:Int) :: s)=match pvF k s with|some (n,r')=>some (c % 128+128*n,r')|none=>none:=by
     simp only[pvF]
     rw[if_neg (by omega),Int.toNat_natCast]
     try (cases pvF k s<;>rfl)
    rcases unvary_loop m v hb k s (i+1) (a+c % 128*128 ^ (9-(k+1))) f (by omega) (by omega) hlt hat.next with⟨n,r,j,g1,g2,g3⟩|⟨g1,e,t,g2,g3⟩
    ·refine .inl ⟨c % 128 + 128 * n, r, j, by rw [hp, g1], g2, ?_⟩
     have e:a+c % 128*128 ^ (9-(k+1))+n*128 ^ (9-k)=a+(c % 128+128*n)*128 ^ (9-(k+1)):=by
      rw[hpw,Nat.add_mul,Nat.mul_comm 128 n,Nat.mul_assoc,Nat.add_assoc]
     rw[g3,e]
    ·exact .inr ⟨by rw[hp,g1],e,t,g2,g3⟩
 |_,_,_,_,0,_,h,_,_=>by omega
theorem unvary_ok (hN:20<N) (hb:Fit b) {s:List Int} {i:Int} (h:At b s i) (m:Nat) :
  (∃ n r j,pN m s=some (n,r)∧At b r j∧F20 N (b,i,(m:Int))=some (b,j,(n:Int),0))∨(pN m s=none∧∃ c j e,e≠0∧F20 N (b,i,(m:Int))=some (c,j,0,e)):=by
 rw[F20_eq,check_at hb h,obs,ne00,bif_r]
 rcases unvary_loop (N:=N) (m:Int) 0 hb 9 s i 0 N (by omega) (by omega) (by simp) h with⟨n,r,j,g1,g2,g3⟩|⟨g1,e,t,g2,g3⟩
 ·simp only [Nat.sub_self, show ((0 : Nat) : Int) = 0 from rfl] at g3
  rw[g3,obs]
  simp only[Nat.pow_zero,Nat.mul_one,Nat.zero_add]
  by_cases hm:n≤m
  ·rw [decF (show ¬ (n : Int) > (m : Int) by omega), bif_r]
   exact .inl ⟨n,r,j,by simp only[pN,pFlt,pv,g1,obs,decT hm,bif_l],g2,rfl⟩
  ·rw [decT (show (n : Int) > (m : Int) by omega), bif_l]
   exact .inr ⟨by simp only[pN,pFlt,pv,g1,obs,decF hm];rfl,[],0,4,by decide,rfl⟩
 ·simp only [Nat.sub_self, show ((0 : Nat) : Int) = 0 from rfl] at g3
  rw[g3,obs]
  exact .inr ⟨by simp only[pN,pFlt,pv,g1,Option.bind_none],[],t,e,g2,rfl⟩
theorem pN_max (s:List Int) (hs:Byt s):pN 18446744073709551615 s=pv s:=by
 unfold pN pFlt
 cases h:pv s with
 |none=>rfl
 |some x=>
  have:=(pv_inv.bwd s x.1 x.2 hs h).1
  simp only[obs]
  rw[decT (show x.1≤18446744073709551615 by omega),bif_l]
theorem unsigned_ok (hN:20<N) (hb:Fit b) {s:List Int} {i:Int} (h:At b s i) :
  (∃ v r j,pS s=some (v,r)∧At b r j∧F24 N (b,i)=some (b,j,v,0))∨(pS s=none∧∃ c j e v,e≠0∧F24 N (b,i)=some (c,j,v,e)):=by
 rw[F24_eq]
 have hmx:=pN_max s (h.byt hb)
 rcases unvary_ok hN hb h 18446744073709551615 with⟨n,r,j,g1,g2,g3⟩|⟨g1,c,j,e,g2,g3⟩
 ·rw [hmx] at g1
  have hn:=(pv_inv.bwd s n r (h.byt hb) g1).1
  rw[show ((18446744073709551615:Nat):Int)=18446744073709551615 from rfl] at g3
  rw[g3,obs]
  simp only[unzig_bits hn]
  exact .inl ⟨unzig n,r,j,by simp only[pS,pMap,g1,Option.map_some],g2,rfl⟩
 ·rw [hmx] at g1
  rw[show ((18446744073709551615:Nat):Int)=18446744073709551615 from rfl] at g3
  rw[g3,obs]
  exact .inr ⟨by simp only[pS,pMap,g1,Option.map_none],c,j,e,_,g2,rfl⟩
theorem untext_ok (hN:20<N) (hb:Fit b) {s:List Int} {i:Int} (h:At b s i) {m:Nat} (hm:m≤200000) :
  (∃ v r j,pText m s=some (v,r)∧At b r j∧F23 N (b,i,(m:Int))=some (b,j,v,0))∨(pText m s=none∧∃ c j e v,e≠0∧F23 N (b,i,(m:Int))=some (c,j,v,e)):=by
 have hl:=hb.2
 rw[F23_eq,check_at hb h,obs,show ((0:Int)==0)=true from rfl,bif_l,decF (show ¬(m:Int)<0 by omega),bif_r,decF (show ¬(m:Int)>200000 by omega),obs,bif_r,obs,ne00,bif_r,wu64_nat (show m<18446744073709551616 by omega)]
 rcases unvary_ok hN hb h m with⟨n,r,j,g1,g2,g3⟩|⟨g1,c,j,e,g2,g3⟩
 ·have hr := g2.len
  rw[g3,obs]
  simp only[show ((0:Int)==0)=true from rfl,bif_l,obs,wi64_in (show -9223372036854775808≤(b.length:Int)-j∧(b.length:Int)-j≤9223372036854775807 by omega),wu64_in (show 0≤(b.length:Int)-j∧(b.length:Int)-j≤18446744073709551615 by omega)]
  by_cases hn:n≤r.length
  ·have w1 : wi64 (n : Int) = (n : Int) := wi64_nat (by omega)
   have w2:wi64 (j+(n:Int))=j+n:=wi64_in (by omega)
   rw[decF (show ¬(n:Int)>(b.length:Int)-j by omega),bif_r,obs,ne00,bif_r]
   simp only[w1,w2]
   rw[decT (show 0≤j by omega),chk_true,decT (show 0≤j+(n:Int) by omega),chk_true,decT (show j.toNat≤(j+(n:Int)).toNat by omega),decT (show (j+(n:Int)).toNat≤b.length by omega),Bool.and_self,chk_true,g2.drop,show (j+(n:Int)).toNat-j.toNat=n by omega]
   refine .inl ⟨_,_,_,?_,g2.skip hn,rfl⟩
   simp only[pText,pMap,pThen,g1,obs,pBytes,if_pos hn,Option.map_some]
  ·rw [decT (show (n : Int) > (b.length : Int) - j by omega), bif_l, obs]
   refine .inr ⟨?_,[],0,24,[],by decide,rfl⟩
   simp only[pText,pMap,pThen,g1,obs,pBytes,if_neg hn,Option.map_none]
 ·rw [g3, obs]
  have he:(e==(0:Int))=false:=by simpa using g2
  have he2:(e != (0:Int))=true:=by simpa using g2
  simp only[he,bif_r,obs,he2,bif_l]
  exact .inr ⟨by simp only[pText,pMap,pThen,g1,Option.bind_none,Option.map_none],[],0,e,[],g2,rfl⟩
theorem fine00 (hN:20<N):F51 N [0,0]=some 0:=by
 obtain⟨k,rfl⟩:∃ k,N=k+3:=⟨N-3,by omega⟩
 rw[F51_eq]
 rw[f51.L0_3_succ]
 simp only[show decide ((0:Int)<(([0,0]:List Int).length:Int))=true from rfl,bif_l,show idx ([0,0]:List Int) 0=some 0 from rfl,obs,ne00,bif_r,show wi64 (0+1)=1 by decide]
 rw[f51.L0_3_succ]
 simp only[show decide ((1:Int)<(([0,0]:List Int).length:Int))=true from rfl,bif_l,show idx ([0,0]:List Int) 1=some 0 from rfl,obs,ne00,bif_r,show wi64 (1+1)=2 by decide]
 rw[f51.L0_3_succ]
 rfl
theorem unfixed_ok (hN:20<N) (hb:Fit b) {s:List Int} {i:Int} (h:At b s i) :
  (∃ v r j,pByte s=some (v,r)∧At b r j∧F21 N (b,i,1)=some (b,j,v,0))∨(pByte s=none∧∃ c j e,e≠0∧F21 N (b,i,1)=some (c,j,0,e)):=by
 have hl:=hb.2
 have hr:=h.len
 rw[F21_eq,check_at hb h,obs,show F52 N 1=some 0 from by kernel_rfl,obs,fine00 hN,obs,ne00,bif_r,wi64_in (show -9223372036854775808≤(b.length:Int)-i∧(b.length:Int)-i≤9223372036854775807 by omega)]
 cases s with
 |nil=>
  simp only[List.length_nil] at hr
  rw[decT (show (1:Int)>(b.length:Int)-i by omega),bif_l]
  exact .inr ⟨rfl,[],0,24,by decide,rfl⟩
 | cons x r =>
  simp only[List.length_cons] at hr
  have hx:=h.byt hb x List.mem_cons_self
  have w1:wi64 (i+1)=i+1:=wi64_in (by omega)
  obtain⟨c,rfl⟩:=Int.eq_ofNat_of_zero_le hx.1
  rw[decF (show ¬(1:Int)>(b.length:Int)-i by omega),bif_r,w1,decT (show 0≤i by omega),chk_true,decT (show 0≤i+1 by omega),chk_true,decT (show i.toNat≤(i+1).toNat by omega),decT (show (i+1).toNat≤b.length by omega),Bool.and_self,chk_true,h.drop,show (i+1).toNat-i.toNat=1 by omega]
  obtain⟨k,rfl⟩:∃ k,N=k+2:=⟨N-2,by omega⟩
  have hior:ior .u64 (0:Int) (wu64 ((wu64 (c:Int))*(2 ^ min (Int.toNat (wi64 ((8:Int)*0))) 64)))=(c:Int):=by
   rw[wu64_nat (by omega),show (2:Int) ^ min (Int.toNat (wi64 ((8:Int)*0))) 64=1 from rfl,Int.mul_one,wu64_nat (by omega)]
   have:=ior_pow (a:=0) (d:=c) (t:=0) (by omega) (by omega)
   simpa using this
  rw[show List.take 1 ((c:Int) :: r)=[(c:Int)] from rfl,f21.L0_11_succ]
  simp only[show decide ((0:Int)<(([(c:Int)]:List Int).length:Int))=true from rfl,bif_l,show idx ([(c:Int)]:List Int) 0=some (c:Int) from rfl,obs,show (!decide ((wi64 ((8:Int)*0))<0))=true by decide,chk_true,hior,show wi64 (0+1)=1 by decide]
  rw[f21.L0_11_succ]
  simp only[show decide ((1:Int)<(([(c:Int)]:List Int).length:Int))=false from rfl,bif_r,obs,w1]
  exact .inl ⟨c,r,i+1,rfl,h.next,rfl⟩
end
open Go Go.Eng Go.Sym
open Classical
section
variable {α β ε : Type} {b:List Int} {g : ε→Prop}
noncomputable def Res (b:List Int) (q:Option (α×List Int)) (g : ε→Prop) (y:List Int×Int×ε×α):Prop:=
 match q with
 |some x=>y.1=b∧At b x.2 y.2.1∧g y.2.2.1∧y.2.2.2=x.1
 |none=>¬g y.2.2.1
noncomputable def Stt (b:List Int) (q:Option (List Int)) (g : ε→Prop) (c:List Int) (i:Int) (e : ε):Prop:=
 match q with
 |some s=>c=b∧At b s i∧g e
 |none=>¬g e
theorem Res.st {q:Option (α×List Int)} {y:List Int×Int×ε×α} (h:Res b q g y):Stt b (q.map (·.2)) g y.1 y.2.1 y.2.2.1:=by
 cases q with
 |none=>exact h
 |some x=>exact⟨h.1,h.2.1,h.2.2.1⟩
theorem Res.map {q:Option (α×List Int)} {y:List Int×Int×ε×α} (h:Res b q g y) (f : α→β):Res b (q.map fun x=>(f x.1,x.2)) g (y.1,y.2.1,y.2.2.1,f y.2.2.2):=by
 cases q with
 |none=>exact h
 |some x=>exact⟨h.1,h.2.1,h.2.2.1,congrArg f h.2.2.2⟩
theorem Res.then {o:Option (List Int)} {p:Rdr α} {q : α→Rdr β} {y1:List Int×Int×ε×α} {y2:List Int×Int×ε×β} (h1:Res b (o.bind p) g y1) (h2:Res b (((o.bind p).map (·.2)).bind (q y1.2.2.2)) g y2) :
  Res b (o.bind (pThen p q)) g (y2.1,y2.2.1,y2.2.2.1,y1.2.2.2,y2.2.2.2):=by
 cases o with
 |none=>exact h2
 | some s =>
  simp only[obs] at h1 h2 ⊢
  unfold pThen
  cases hp:p s with
  |none=>rw[hp] at h2;exact h2
  |some x=>
   rw[hp] at h1 h2
   have e:y1.2.2.2=x.1:=h1.2.2.2
   rw[e] at h2
   simp only[Option.map_some,obs] at h2 ⊢
   rw[e]
   exact h2.map fun z=>(x.1,z)
theorem Res.cnt {o:Option (List Int)} {p:Rdr α} {m:Nat} {y1:List Int×Int×ε×Int} {y2:List Int×Int×ε×List α} (h1:Res b (o.bind (pI m)) g y1) (h2:Res b (((o.bind (pI m)).map (·.2)).bind (pRep p y1.2.2.2.toNat)) g y2):Res b (o.bind (pCnt m p)) g y2:=by
 cases o with
 |none=>exact h2
 | some s =>
  simp only[obs] at h1 h2 ⊢
  rw[pCnt_eq]
  cases hp:pI m s with
  |none=>rw[hp] at h2;exact h2
  |some x=>
   rw[hp] at h1 h2
   have e:y1.2.2.2=x.1:=h1.2.2.2
   rw[e] at h2
   exact h2
theorem Res.snoc {o:Option (List Int)} {p:Rdr α} {t:Nat} {c:List Int} {i:Int} {e : ε} {acc:List α} {y:List Int×Int×ε×α} (h1:Res b (o.bind (pRep p t)) g (c,i,e,acc)) (h2:Res b (((o.bind (pRep p t)).map (·.2)).bind p) g y) :
  Res b (o.bind (pRep p (t+1))) g (y.1,y.2.1,y.2.2.1,acc++[y.2.2.2]):=by
 cases o with
 |none=>exact h2
 | some s =>
  simp only[obs,pRep] at h1 h2 ⊢
  cases hp:pRep p t s with
  |none=>rw[hp] at h2;exact h2
  | some x =>
   rw[hp] at h1 h2
   obtain⟨xs,r⟩:=x
   have e:acc=xs:=h1.2.2.2
   subst e
   simp only[Option.map_some,obs] at h2 ⊢
   cases hq:p r with
   |none=>rw[hq] at h2;exact h2
   |some z=>
    rw[hq] at h2
    exact⟨h2.1,h2.2.1,h2.2.2.1,by rw[h2.2.2.2]⟩
theorem rep_loop {p:Rdr α} {n:Nat} {Lf:Nat→Int→List α→List Int→Int→ε→Option β} {G:List α→List Int→Int→ε→β}
  (h0:∀ k acc c i e,Lf (k+1) (n:Int) acc c i e=some (G acc c i e))
  (hs:∀ k (t:Nat) acc c i e (o:Option (List Int)),t<n→acc.length=t→Stt b o g c i e→∃ y,Res b (o.bind p) g y∧Lf (k+1) (t:Int) acc c i e=Lf k ((t+1:Nat):Int) (acc++[y.2.2.2]) y.1 y.2.1 y.2.2.1)
  {o:Option (List Int)} {c:List Int} {i:Int} {e : ε} (h:Stt b o g c i e) {k:Nat} (hk:n<k) :
  ∃ y:List Int×Int×ε×List α,Res b (o.bind (pRep p n)) g y∧y.2.2.2.length=n∧Lf k 0 [] c i e=some (G y.2.2.2 y.1 y.2.1 y.2.2.1):=by
 have key:∀ (m t k:Nat) (acc:List α) (c:List Int) (i:Int) (e : ε),n=t+m→acc.length=t→Res b (o.bind (pRep p t)) g (c,i,e,acc)→m<k→
   ∃ y:List Int×Int×ε×List α,Res b (o.bind (pRep p n)) g y∧y.2.2.2.length=n∧Lf k (t:Int) acc c i e=some (G y.2.2.2 y.1 y.2.1 y.2.2.1):=by
  intro m
  induction m with
  |zero=>
   intro t k acc c i e hn hl hr hk
   obtain⟨k,rfl⟩:∃ j,k=j+1:=⟨k-1,by omega⟩
   have:n=t:=by omega
   subst this
   exact⟨(c,i,e,acc),hr,hl,h0 k acc c i e⟩
  |succ m ih=>
   intro t k acc c i e hn hl hr hk
   obtain⟨k,rfl⟩:∃ j,k=j+1:=⟨k-1,by omega⟩
   obtain⟨y,g1,g2⟩:=hs k t acc c i e _ (by omega) hl hr.st
   rw[g2]
   exact ih (t+1) k _ _ _ _ (by omega) (by simp[hl]) (hr.snoc g1) (by omega)
 refine key n 0 k [] c i e (by omega) rfl ?_ hk
 cases o with
 |none=>exact h
 |some s=>exact⟨h.1,h.2.1,h.2.2,rfl⟩
end
noncomputable def z0 (e:Int):Prop:=e=0
noncomputable def limP:Lim:=⟨32,16,16,8,64,32,32,32,16,16,200⟩
theorem limP_wide:limP.Wide:=by
 constructor
 ·constructor<;>decide
 all_goals decide
noncomputable def accG (g:Nat→Nat→Nat):Nat→List (Nat×Nat)→List Run
 |_,[]=>[]
 |w,x :: r=>((g w x.1:Int),(x.2:Int)) :: accG g (g w x.1) r
noncomputable def endG (g:Nat→Nat→Nat):Nat→List (Nat×Nat)→Nat
 |w,[]=>w
 |w,x :: r=>endG g (g w x.1) r
theorem accG_snoc (g:Nat→Nat→Nat):∀ (l:List (Nat×Nat)) (w:Nat) (x:Nat×Nat),accG g w (l++[x])=accG g w l++[((g (endG g w l) x.1:Int),(x.2:Int))]∧endG g w (l++[x])=g (endG g w l) x.1
 |[],_,_=>⟨rfl,rfl⟩
 |y :: r,w,x=>by
  obtain⟨h1,h2⟩:=accG_snoc g r (g w y.1) x
  exact⟨by simp only[List.cons_append,accG,endG,h1],by simp only[List.cons_append,endG,h2]⟩
theorem accG_len (g:Nat→Nat→Nat):∀ (l:List (Nat×Nat)) (w:Nat),(accG g w l).length=l.length
 |[],_=>rfl
 |x :: r,w=>by simp only[accG,List.length_cons,accG_len g r]
noncomputable def Caps (g:Nat→Nat→Nat):Prop:=∀ w b,w<200→g w b=w+b∨(200≤g w b∧200≤w+b)
theorem accG_eq {g:Nat→Nat→Nat} (hg:Caps g):∀ (l:List (Nat×Nat)) (w:Nat),w<200→((∀ x,x∈accG g w l→x.1<200)∨∀ x,x∈accR w l→x.1<200)→accG g w l=accR w l
 |[],_,_,_=>rfl
 | x :: r, w, hw, h => by
  have e:g w x.1=w+x.1∧w+x.1<200:=by
   rcases h with h|h
   ·have := h ((g w x.1 : Int), (x.2 : Int)) List.mem_cons_self
    simp only at this
    rcases hg w x.1 hw with h1|h1<;>omega
   ·have := h (((w + x.1 : Nat) : Int), (x.2 : Int)) List.mem_cons_self
    simp only at this
    rcases hg w x.1 hw with h1|h1<;>omega
  simp only[accG,accR,e.1]
  rw[accG_eq hg r (w+x.1) e.2 (h.imp (fun h y hy=>h y (by simp only[accG,e.1];exact List.mem_cons_of_mem _ hy)) fun h y hy=>h y (List.mem_cons_of_mem _ hy))]
theorem RunsOK.lt {l:List Run} {n:Int} (h:RunsOK l n):∀ x,x∈l→x.1<n:=fun x hx=>by
 obtain⟨i,hi,rfl⟩:=mem_getD (0,0) hx
 exact h.2.2.2 i hi
theorem accG_runs {g:Nat→Nat→Nat} (hg:Caps g) {l:List (Nat×Nat)} {n:Nat} (hn:n≤200):(RunsOK (accG g 0 l) n↔RunsOK (accR 0 l) n)∧(RunsOK (accR 0 l) n→accG g 0 l=accR 0 l):=by
 have h2:RunsOK (accR 0 l) n→accG g 0 l=accR 0 l:=fun h=>accG_eq hg l 0 (by omega) (.inr fun x hx=>by have:=h.lt x hx;omega)
 refine⟨⟨fun h=>?_,fun h=>by rw[h2 h];exact h⟩,h2⟩
 rw[←accG_eq hg l 0 (by omega) (.inl fun x hx=>by have:=h.lt x hx;omega)]
 exact h
section
variable {N:Nat} {b:List Int}
theorem rd_number (hN:20<N) (hb:Fit b) {o:Option (List Int)} {c:List Int} {i e:Int} (h:Stt b o z0 c i e) {m:Nat} (hm:m≤200000) :
  ∃ y,F7 N (c,i,e,(m:Int))=some y∧Res b (o.bind (pI m)) z0 y∧(0≤y.2.2.2∧y.2.2.2≤m):=by
 rw[F7_eq]
 cases o with
 |none=>
  have he:(e != (0:Int))=true:=by simpa[Stt,z0] using h
  rw[he,bif_l]
  exact⟨_,rfl,h,Int.le_refl _,by simp only;omega⟩
 | some s =>
  obtain⟨rfl,h1,h2⟩:=h
  have h2:e=0:=h2
  subst h2
  rw[ne00,bif_r,wu64_nat (by omega)]
  rcases unvary_ok hN hb h1 m with⟨n,r,j,g1,g2,g3⟩|⟨g1,c,j,e,g2,g3⟩
  ·have hn := ((pN_inv (by omega)).bwd s n r (h1.byt hb) g1).1
   rw[g3,obs]
   simp only[wi64_nat (show n≤9223372036854775807 by omega)]
   refine⟨_,rfl,?_,by simp only;omega,by simp only;omega⟩
   simp only[obs,pI,pMap,g1,Option.map_some]
   exact⟨rfl,g2,rfl,rfl⟩
  ·rw [g3, obs]
   refine⟨_,rfl,?_,by simp only[show wi64 0=0 by decide];omega,by simp only[show wi64 0=0 by decide];omega⟩
   simp only[obs,pI,pMap,g1,Option.map_none]
   exact g2
theorem rd_text (hN:20<N) (hb:Fit b) {o:Option (List Int)} {c:List Int} {i e:Int} (h:Stt b o z0 c i e) {m:Nat} (hm:m≤200000) :
  ∃ y,F9 N (c,i,e,(m:Int))=some y∧Res b (o.bind (pText m)) z0 y:=by
 rw[F9_eq]
 cases o with
 |none=>
  have he:(e != (0:Int))=true:=by simpa[Stt,z0] using h
  rw[he,bif_l]
  exact⟨_,rfl,h⟩
 | some s =>
  obtain⟨rfl,h1,h2⟩:=h
  have h2:e=0:=h2
  subst h2
  rw[ne00,bif_r]
  rcases untext_ok hN hb h1 hm with⟨v,r,j,g1,g2,g3⟩|⟨g1,c,j,e,v,g2,g3⟩
  ·rw [g3, obs]
   exact⟨_,rfl,by simp only[obs,g1];exact⟨rfl,g2,rfl,rfl⟩⟩
  ·rw [g3, obs]
   exact⟨_,rfl,by simp only[obs,g1];exact g2⟩
theorem rd_fields (hN:300<N) (hb:Fit b) {o:Option (List Int)} {c:List Int} {i e:Int} (h:Stt b o z0 c i e) {m:Nat} (hm:m≤200) :
  ∃ y,F22 N (c,i,e,(m:Int))=some y∧Res b (o.bind (pFields 16 32 m)) z0 y:=by
 rw[F22_eq]
 obtain⟨y0,h1,h2,h3⟩:=rd_number (N:=N) (by omega) hb h (m:=m) (by omega)
 rw[h1,obs]
 obtain⟨n,hn⟩:=Int.eq_ofNat_of_zero_le h3.1
 obtain⟨y,g1,g2,g3⟩:=rep_loop (p:=pField 16 32) (n:=n) (g:=z0) (b:=b) (Lf:=fun k t acc c i e=>f22.L0_4 N k (acc,y0.2.2.2,t,c,i,e)) (G:=fun acc c i e=>(acc,c,i,e))
  (fun k acc c i e=>by simp only[f22.L0_4_succ,hn,ge_dec,bif_r])
  (fun k t acc c i e o ht hl hst => by
   obtain⟨u,q1,q2⟩:=rd_text (N:=N) (by omega) hb hst (m:=16) (by omega)
   obtain⟨v,q3,q4,_⟩:=rd_number (N:=N) (by omega) hb q2.st (m:=32) (by omega)
   refine⟨_,q2.then q4,?_⟩
   rw[show ((16:Nat):Int)=16 from rfl] at q1
   rw[show ((32:Nat):Int)=32 from rfl] at q3
   simp only[f22.L0_4_succ,hn,lt_dec ht,bif_l,q1,q3,obs,room_small (show acc.length+1≤10000000 by omega) (show 24≤1000 by omega),chk_true,wi64_succ (show t<9223372036854775807 by omega)]) h2.st (k:=N) (by omega)
 rw[g3,obs]
 exact⟨_,rfl,h2.cnt (by rw[hn,Int.toNat_natCast];exact g1)⟩
theorem rd_kind (hN:300<N) (hb:Fit b) {o:Option (List Int)} {c:List Int} {i e:Int} (h:Stt b o z0 c i e) :
  ∃ y,F8 N (c,i,e)=some y∧Res b (o.bind (pType limP)) z0 y:=by
 rw[F8_eq]
 cases o with
 |none=>
  have he:(e==(0:Int))=false:=by simpa[Stt,z0] using h
  rw[he,bif_r,show ((0:Int)==7)=false from rfl,bif_r]
  exact⟨_,rfl,h⟩
 | some s =>
  obtain⟨rfl,h1,h2⟩:=h
  have h2:e=0:=h2
  subst h2
  rw[show ((0:Int)==0)=true from rfl,bif_l]
  rcases unfixed_ok (N:=N) (by omega) hb h1 with⟨v,r,j,g1,g2,g3⟩|⟨g1,c,j,e,g2,g3⟩
  ·cases s with
   |nil=>cases g1
   | cons x r =>
    injection g1 with g1;injection g1 with g4 g5;subst g4 g5
    have hx:=h1.byt hb x List.mem_cons_self
    rw[g3,obs]
    simp only[wu8_in (show 0≤x∧x≤255 by omega),bif_tt,obs]
    have hst:Stt c (some r) z0 c j 0:=⟨rfl,g2,rfl⟩
    have ht:pType limP (x :: r)=(pKind limP x r).map fun z=>((x,z.1),z.2):=rfl
    rw[ht]
    unfold pKind
    by_cases hk:x=4∨x=7
    ·have e1 : (x == (4 : Int) || x == (7 : Int)) = true := by simpa using hk
     obtain⟨u,q1,q2,_⟩:=rd_number (N:=N) (by omega) hb hst (m:=32) (by omega)
     rw[show ((32:Nat):Int)=32 from rfl] at q1
     rw[e1,bif_l,q1,obs,if_pos hk]
     exact⟨_,rfl,(q2.map fun v=>(v,(0:Int),([]:List Field))).map fun z=>(x,z)⟩
    ·have e1 : (x == (4 : Int) || x == (7 : Int)) = false := by simpa using hk
     rw[e1,bif_r,if_neg hk]
     by_cases h6:x=6
     ·have e2 : (x == (6 : Int)) = true := by simpa using h6
      obtain⟨u,q1,q2,_⟩:=rd_number (N:=N) (by omega) hb hst (m:=32) (by omega)
      obtain⟨v,q3,q4,_⟩:=rd_number (N:=N) (by omega) hb q2.st (m:=16) (by omega)
      rw[show ((32:Nat):Int)=32 from rfl] at q1
      rw[show ((16:Nat):Int)=16 from rfl] at q3
      rw[e2,bif_l,q1,obs,q3,obs,if_pos h6]
      have:=q2.then (p:=pI 32) (q:=fun _=>pI 16) q4
      exact⟨_,rfl,(this.map fun v=>(v.1,v.2,([]:List Field))).map fun z=>(x,z)⟩
     ·have e2 : (x == (6 : Int)) = false := by simpa using h6
      rw[e2,bif_r,if_neg h6]
      by_cases h5:x=5
      ·have e3 : (x == (5 : Int)) = true := by simpa using h5
       obtain⟨u,q1,q2⟩:=rd_fields (N:=N) (by omega) hb hst (m:=8) (by omega)
       rw[show ((8:Nat):Int)=8 from rfl] at q1
       rw[e3,bif_l,q1,obs,if_pos h5]
       exact⟨_,rfl,(q2.map fun v=>((0:Int),(0:Int),v)).map fun z=>(x,z)⟩
      ·have e3 : (x == (5 : Int)) = false := by simpa using h5
       rw[e3,bif_r,if_neg h5]
       exact⟨_,rfl,rfl,g2,rfl,rfl⟩
  ·rw [g3, obs]
   simp only[show wu8 0=0 by decide,bif_tt,obs,show ((0:Int)==(4:Int)||(0:Int)==(7:Int))=false from rfl,bif_r,show ((0:Int)==(6:Int))=false from rfl,show ((0:Int)==(5:Int))=false from rfl]
   refine⟨_,rfl,?_⟩
   cases s with
   |nil=>exact g2
   |cons x r=>cases g1
noncomputable def opD (N:Nat) (s:Bool) (c:List Int) (i:Int):Option (List Int×Int×Int×Int):=
 bif s then F24 N (c,i) else (F20 N (c,i,18446744073709551615)).map fun y=>(y.1,y.2.1,wi64 (min y.2.2.1 1048576),y.2.2.2)
theorem opD_ok (hN:20<N) (hb:Fit b) {s:List Int} {i:Int} (h:At b s i) {a:UInt8} (ha:a≠45) :
  (∃ v r j,pOp a s=some (v,r)∧At b r j∧opD N (sgn a) b i=some (b,j,v,0))∨(pOp a s=none∧∃ c j e v,(e != (0:Int))=true∧opD N (sgn a) b i=some (c,j,v,e)):=by
 unfold opD pOp
 rw[if_neg ha]
 cases hs:sgn a with
 |true=>
  rw[bif_l,if_pos rfl]
  rcases unsigned_ok hN hb h with h1|⟨h1,c,j,e,v,h2,h3⟩
  ·exact .inl h1
  ·exact .inr ⟨h1,c,j,e,v,by simpa using h2,h3⟩
 | false =>
  rw[bif_r,if_neg (by decide)]
  have hmx:=pN_max s (h.byt hb)
  rcases unvary_ok hN hb h 18446744073709551615 with⟨n,r,j,g1,g2,g3⟩|⟨g1,c,j,e,g2,g3⟩
  ·rw [hmx] at g1
   rw[show ((18446744073709551615:Nat):Int)=18446744073709551615 from rfl] at g3
   refine .inl ⟨min (n:Int) 1048576,r,j,by simp only[pMap,g1,Option.map_some],g2,?_⟩
   rw[g3,Option.map_some]
   simp only[wi64_in (show -9223372036854775808≤min (n:Int) 1048576∧min (n:Int) 1048576≤9223372036854775807 by omega)]
  ·rw [hmx] at g1
   rw[show ((18446744073709551615:Nat):Int)=18446744073709551615 from rfl] at g3
   exact .inr ⟨by simp only[pMap,g1,Option.map_none],c,j,e,_,by simpa using g2,by rw[g3];rfl⟩
theorem left_ok (hb:Fit b) {s:List Int} {i:Int} (h:At b s i):F54 N (b,i)=some ((s.length:Int),0):=by
 have hl:=hb.2
 have hr:=h.len
 rw[F54_eq,check_at hb h,obs,ne00,bif_r,wi64_in (by omega)]
 congr 2;omega
end
open Go Go.Eng Go.Sym
open Classical
section
variable {N:Nat} {b:List Int}
noncomputable def DecI (b:List Int) (q:Option (Instr×List Int)) (t:Option (List Int×Int×Int×Int×Int×Int×Int)):Prop:=
 match q with
 |some x=>∃ j,At b x.2 j∧t=some (b,j,x.1.1,x.1.2.1,x.1.2.2.1,x.1.2.2.2,0)
 |none=>∃ c j x y z w e,(e != (0:Int))=true∧t=some (c,j,x,y,z,w,e)
theorem opTree {β : Type} (s:Bool) (u v:Option (List Int×Int×Int×Int)) {K1 K2:List Int×Int×Int×Int→Option β} (hK:∀ c j m e,K2 (c,j,m,e)=K1 (c,j,wi64 (min m 1048576),e)) :
  (bif s then Option.bind u K1 else Option.bind v K2)=Option.bind (bif s then u else v.map fun y=>(y.1,y.2.1,wi64 (min y.2.2.1 1048576),y.2.2.2)) K1:=by
 cases s with
 |true=>rfl
 | false =>
  cases v with
  |none=>rfl
  |some y=>
   obtain⟨c,j,m,e⟩:=y
   exact hK c j m e
theorem opStep (hN:20<N) (hb:Fit b) {s:List Int} {i:Int} (h:At b s i) {a:UInt8} (ha:a≠45) {S:Int×List Int→Option (Instr×List Int)} {K1 K2:List Int×Int×Int×Int→Option (List Int×Int×Int×Int×Int×Int×Int)}
  (hK:∀ c j m e,K2 (c,j,m,e)=K1 (c,j,wi64 (min m 1048576),e)) (hf:∀ c j v e,(e != (0:Int))=true→DecI b none (K1 (c,j,v,e))) (hk:∀ v r j,At b r j→DecI b (S (v,r)) (K1 (b,j,v,0))) :
  DecI b ((pOp a s).bind S) (bif sgn a then Option.bind (F24 N (b,i)) K1 else Option.bind (F20 N (b,i,18446744073709551615)) K2):=by
 have hd:=opD_ok hN hb h ha
 unfold opD at hd
 rw[opTree _ _ _ hK]
 rcases hd with⟨v,r,j,g1,g2,g3⟩|⟨g1,c,j,e,v,g2,g3⟩
 ·rw[g1,g3];exact hk v r j g2
 ·rw[g1,g3];exact hf c j v e g2
theorem failI {e:Int} (he:(e != (0:Int))=true):DecI b none (some (([]:List Int),(0:Int),(0:Int),(0:Int),(0:Int),(0:Int),e)):=⟨[],0,0,0,0,0,e,he,rfl⟩
theorem finI {op x y z:Int} {r:List Int} {j:Int} (hj:At b r j):DecI b (if chkI (op,x,y,z)=true then some ((op,x,y,z),r) else none)
  (Option.bind (F56 N (op,x,y,z)) fun q=>bif q != (0:Int) then some (([]:List Int),(0:Int),(0:Int),(0:Int),(0:Int),(0:Int),(12:Int)) else some (b,j,op,x,y,z,(0:Int))):=by
 have:=checkO_ok N (op,x,y,z)
 simp only at this
 rw[this,obs]
 cases hc:chkI (op,x,y,z) with
 |true=>rw[if_pos rfl,bif_l,ne00,bif_r];exact⟨j,hj,rfl⟩
 |false=>rw[if_neg (by decide),bif_r];exact failI rfl
theorem rd_instr (hN:20<N) (hb:Fit b) {s:List Int} {i:Int} (h:At b s i):DecI b (pInstr s) (F25 N (b,i)):=by
 have hl:=hb.2
 rw[F25_eq,left_ok hb h,obs]
 simp only[ne00,bif_r,F53_eq,obs]
 cases s with
 |nil=>exact failI rfl
 | cons op r0 =>
  have hr:=h.len
  simp only[List.length_cons] at hr
  rw[show (((op :: r0).length:Int)==0)=false by rw[beq_eq_false_iff_ne,List.length_cons];omega,bif_r,h.idx,obs,shapeO_shp,obs,wi64_in (n:=i+1) (by omega)]
  have hat:=h.next
  simp only[pInstr]
  cases hs:shp op with
  |none=>exact failI rfl
  | some abc =>
   obtain⟨a,a2,a3⟩:=abc
   simp only[cnt_nn,bif_r,neg_sgn]
   have d01:decide ((0:Int)<1)=true:=rfl
   have d02:decide ((0:Int)<2)=true:=rfl
   have d03:decide ((0:Int)<3)=true:=rfl
   have d12:decide ((1:Int)<2)=true:=rfl
   have d13:decide ((1:Int)<3)=true:=rfl
   have d23:decide ((2:Int)<3)=true:=rfl
   have d00:decide ((0:Int)<0)=false:=rfl
   have d11:decide ((1:Int)<1)=false:=rfl
   have d22:decide ((2:Int)<2)=false:=rfl
   have d33:decide ((3:Int)<3)=false:=rfl
   have p45:∀ r:List Int,pOp 45 r=some (0,r):=fun _=>rfl
   rcases cases45 (shp_mono hs) with⟨rfl,rfl,rfl⟩|⟨ha,rfl,rfl⟩|⟨ha,ha2,rfl⟩|⟨ha,ha2,ha3⟩
   ·simp only [show cnt 45 45 45 = 0 from rfl, d00, bif_r, p45]
    exact finI hat
   ·simp only [show cnt a 45 45 = 1 by simp [cnt, ha], d01, d11, bif_l, bif_r, p45]
    refine opStep hN hb hat ha ?_ (fun c j v e he=>?_) fun v r j hj=>?_
    ·exact fun _ _ _ _=>rfl
    ·simp only[he,bif_l];exact failI he
    ·simp only[ne00,bif_r];exact finI hj
   ·simp only [show cnt a a2 45 = 2 by simp [cnt, ha2], d02, d12, d22, bif_l, bif_r, p45]
    refine opStep hN hb hat ha ?_ (fun c j v e he=>?_) fun v r j hj=>?_
    ·exact fun _ _ _ _=>rfl
    ·simp only[he,bif_l];exact failI he
    ·simp only [ne00, bif_r]
     refine opStep hN hb hj ha2 ?_ (fun c j v e he=>?_) fun v r j hj=>?_
     ·exact fun _ _ _ _=>rfl
     ·simp only[he,bif_l];exact failI he
     ·simp only[ne00,bif_r];exact finI hj
   ·simp only [show cnt a a2 a3 = 3 by simp [cnt, ha3], d03, d13, d23, d33, bif_l, bif_r]
    refine opStep hN hb hat ha ?_ (fun c j v e he=>?_) fun v r j hj=>?_
    ·exact fun _ _ _ _=>rfl
    ·simp only[he,bif_l];exact failI he
    ·simp only [ne00, bif_r]
     refine opStep hN hb hj ha2 ?_ (fun c j v e he=>?_) fun v r j hj=>?_
     ·exact fun _ _ _ _=>rfl
     ·simp only[he,bif_l];exact failI he
     ·simp only [ne00, bif_r]
      refine opStep hN hb hj ha3 ?_ (fun c j v e he=>?_) fun v r j hj=>?_
      ·exact fun _ _ _ _=>rfl
      ·simp only[he,bif_l];exact failI he
      ·simp only[ne00,bif_r];exact finI hj
end
open Go Go.Eng Go.Sym
open Classical
theorem rep_none {α : Type} {p:Rdr α} {s:List Int} {t:Nat} (h:pRep p t s=none):∀ m,pRep p (t+m) s=none
 |0=>h
 |m+1=>by
  rw[show t+(m+1)=(t+m)+1 by omega,pRep,rep_none h m]
theorem rep_len {α : Type} {p:Rdr α} {s:List Int} : ∀ (t:Nat) {l:List α} {r:List Int},pRep p t s=some (l,r)→l.length=t
 |0,l,r,h=>by
  simp only[pRep,Option.some.injEq,Prod.mk.injEq] at h
  rw[←h.1];rfl
 | t + 1, l, r, h => by
  simp only[pRep] at h
  split at h
  ·rename_i xs r0 h1
   split at h
   ·injection h with h; injection h with h2 h3
    rw[←h2,List.length_append,rep_len t h1];rfl
   ·cases h
  ·cases h
section
variable {α β ε : Type} {b:List Int} {g : ε→Prop}
theorem rep_brk {p:Rdr α} {n:Nat} {Lf:Nat→Int→List α→List Int→Int→ε→Option β} {G:List α→List Int→Int→ε→β}
  (h0:∀ k acc c i e,Lf (k+1) (n:Int) acc c i e=some (G acc c i e))
  (hbad:∀ k (t:Nat) acc c i e,t<n→¬g e→Lf (k+1) (t:Int) acc c i e=some (G acc c i e))
  (hs:∀ k (t:Nat) acc i e s,t<n→acc.length≤t→At b s i→g e→∃ y acc',Res b (p s) g y∧(g y.2.2.1→acc'=acc++[y.2.2.2])∧acc'.length≤t+1∧Lf (k+1) (t:Int) acc b i e=Lf k ((t+1:Nat):Int) acc' y.1 y.2.1 y.2.2.1)
  {o:Option (List Int)} {c:List Int} {i:Int} {e : ε} (h:Stt b o g c i e) {k:Nat} (hk:n<k) :
  ∃ y:List Int×Int×ε×List α,Res b (o.bind (pRep p n)) g y∧y.2.2.2.length≤n∧Lf k 0 [] c i e=some (G y.2.2.2 y.1 y.2.1 y.2.2.1):=by
 have key:∀ (m t k:Nat) (acc:List α) (c:List Int) (i:Int) (e : ε),n=t+m→acc.length≤t→Res b (o.bind (pRep p t)) g (c,i,e,acc)→m<k→
   ∃ y:List Int×Int×ε×List α,Res b (o.bind (pRep p n)) g y∧y.2.2.2.length≤n∧Lf k (t:Int) acc c i e=some (G y.2.2.2 y.1 y.2.1 y.2.2.1):=by
  intro m
  induction m with
  |zero=>
   intro t k acc c i e hn hl hr hk
   obtain⟨k,rfl⟩:∃ j,k=j+1:=⟨k-1,by omega⟩
   have:n=t:=by omega
   subst this
   exact⟨(c,i,e,acc),hr,hl,h0 k acc c i e⟩
  | succ m ih =>
   intro t k acc c i e hn hl hr hk
   obtain⟨k,rfl⟩:∃ j,k=j+1:=⟨k-1,by omega⟩
   cases ho:o.bind (pRep p t) with
   | none =>
    rw[ho] at hr
    refine⟨(c,i,e,acc),?_,by simp only;omega,hbad k t acc c i e (by omega) hr⟩
    have:o.bind (pRep p n)=none:=by
     cases o with
     |none=>rfl
     |some s=>rw[hn];exact rep_none ho (m+1)
    rw[this];exact hr
   | some x =>
    have hr0:=hr
    rw[ho] at hr
    obtain⟨hc,hat,hg,hacc⟩:=hr
    simp only at hc hat hg hacc
    subst hc
    obtain⟨y,acc',g1,g2,g3,g4⟩:=hs k t acc i e x.2 (by omega) hl hat hg
    rw[g4]
    refine ih (t+1) k acc' _ _ _ (by omega) g3 ?_ (by omega)
    have:=hr0.snoc (y:=y) (by rw[ho];exact g1)
    cases hq:o.bind (pRep p (t+1)) with
    |none=>rw[hq] at this;exact this
    |some z=>
     rw[hq] at this
     exact⟨this.1,this.2.1,this.2.2.1,by rw[g2 this.2.2.1];exact this.2.2.2⟩
 refine key n 0 k [] c i e (by omega) (Nat.le_refl _) ?_ hk
 cases o with
 |none=>exact h
 |some s=>exact⟨h.1,h.2.1,h.2.2,rfl⟩
end
noncomputable def g200 (w x:Nat):Nat:=w+min x 200
theorem g200_caps:Caps g200:=fun w x _=>by unfold g200;omega
section
variable {N:Nat} {b:List Int}
theorem runs_loop (hN:20<N) (hb:Fit b) (n v:Int) {k:Nat} (hk:k≤200) (s0:List Int):∀ (m t f:Nat) (l:List (Nat×Nat)) (s:List Int) (i:Int),k=t+m→m<f→pRep pPair t s0=some (l,s)→endG g200 0 l≤200*t→At b s i→
  (∃ l' r j,pRep pPair k s0=some (l',r)∧At b r j∧f57.L0_18 N f (n,accG g200 0 l,(endG g200 0 l:Int),(k:Int),(t:Int),b,i,v)=some (.inr (n,accG g200 0 l',b,j,v)))∨
  (pRep pPair k s0=none∧∃ e,e≠0∧f57.L0_18 N f (n,accG g200 0 l,(endG g200 0 l:Int),(k:Int),(t:Int),b,i,v)=some (.inl ([],e,[],0)))
 |0,t,f+1,l,s,i,hm,_,hp,_,hat=>by
  have:k=t:=by omega
  subst this
  rw[f57.L0_18_succ,ge_dec,bif_r]
  exact .inl ⟨l,s,i,hp,hat,rfl⟩
 | m + 1, t, f + 1, l, s, i, hm, hf, hp, he, hat => by
  have hby:=hat.byt hb
  have hlen:=rep_len t hp
  rw[f57.L0_18_succ,lt_dec (show t<k by omega),bif_l]
  have mx:(18446744073709551615:Int)=((18446744073709551615:Nat):Int):=rfl
  have stop:pPair s=none→pRep pPair k s0=none:=fun h=>by
   rw[show k=(t+1)+m by omega]
   refine rep_none ?_ m
   simp only[pRep,hp,h]
  rw[mx]
  rcases unvary_ok (N:=N) hN hb hat 18446744073709551615 with⟨x,r,j,g1,g2,g3⟩|⟨g1,c,j,e,g2,g3⟩
  ·rw [pN_max s hby] at g1
   rw[g3,obs]
   simp only[ne00,bif_r]
   have hx:=(pv_inv.bwd s x r hby g1).1
   have hbr:=g2.byt hb
   rcases unvary_ok (N:=N) hN hb g2 18446744073709551615 with⟨y,r',j',q1,q2,q3⟩|⟨q1,c,j',e,q2,q3⟩
   ·rw [pN_max r hbr] at q1
    rw[q3,obs]
    have hw1:wi64 (min (x:Int) 200)=((min x 200:Nat):Int):=by rw[wi64_in (by omega)];omega
    have hw2:wi64 ((endG g200 0 l:Int)+((min x 200:Nat):Int))=((g200 (endG g200 0 l) x:Nat):Int):=by rw[wi64_in (by omega)];unfold g200;omega
    have hs:=accG_snoc g200 l 0 (x,y)
    simp only[ne00,bif_r,hw1,hw2,room_small (show (accG g200 0 l).length+1≤10000000 by rw[accG_len];omega) (show 16≤1000 by omega),chk_true,wi64_succ (show t<9223372036854775807 by omega)]
    have hp':pRep pPair (t+1) s0=some (l++[(x,y)],r'):=by
     have hpp:pPair s=some ((x,y),r'):=by simp only[pPair,pThen,g1,q1,obs,Option.map_some]
     simp only[pRep,hp,hpp]
    have ih:=runs_loop hN hb n v hk s0 m (t+1) f (l++[(x,y)]) r' j' (by omega) (by omega) hp' (by rw[hs.2];show endG g200 0 l+min x 200≤200*(t+1);omega) q2
    rw[hs.1,hs.2] at ih
    exact ih
   ·rw [pN_max r hbr] at q1
    rw[q3,obs]
    have h':(e != (0:Int))=true:=by simpa using q2
    simp only[h',bif_l,F86_eq,obs]
    exact .inr ⟨stop (by simp only[pPair,pThen,g1,q1,obs,Option.map_none]),e,q2,rfl⟩
  ·rw [pN_max s hby] at g1
   rw[g3,obs]
   have h':(e != (0:Int))=true:=by simpa using g2
   simp only[h',bif_l,F86_eq,obs]
   exact .inr ⟨stop (by simp only[pPair,pThen,g1,Option.bind_none]),e,g2,rfl⟩
 |_,_,0,_,_,_,_,h,_,_,_=>by omega
theorem pRuns_def {n:Nat} (hn:1≤n∧n≤200) (s:List Int):pRuns n s=((pI n s).bind fun x=>pRep pPair x.1.toNat x.2).bind fun z=>if RunsOK (accR 0 z.1) n then some (accR 0 z.1,z.2) else none:=by
 unfold pRuns
 rw[if_pos hn]
 unfold pMap pFlt pRaw
 rw[pCnt_eq]
 cases (pI n s).bind fun x=>pRep pPair x.1.toNat x.2 with
 |none=>rfl
 |some z=>
  simp only[obs]
  by_cases h:RunsOK (accR 0 z.1) n
  ·rw[decT h,if_pos h];rfl
  ·rw[decF h,if_neg h];rfl
theorem rd_tables (hN:300<N) (hb:Fit b) {s:List Int} {i:Int} (h:At b s i) {n:Nat} (hnn:n≤1000000) :
  (∃ l r j,pRuns n s=some (l,r)∧At b r j∧F57 N (b,i,(n:Int))=some (b,j,l,0))∨(pRuns n s=none∧∃ c j l e,e≠0∧F57 N (b,i,(n:Int))=some (c,j,l,e)):=by
 have hby:=h.byt hb
 rw[F57_eq,left_ok hb h,obs]
 simp only[ne00,bif_r,F87_eq,F86_eq,obs]
 by_cases hn:1≤n∧n≤200
 ·rw [pRuns_def hn]
  rw[decF (show ¬(n:Int)<1 by omega),bif_r,decF (show ¬(n:Int)>200 by omega),obs,bif_r,obs,ne00,bif_r,wu64_nat (by omega)]
  rcases unvary_ok (N:=N) (by omega) hb h n with⟨k,r,j,g1,g2,g3⟩|⟨g1,c,j,e,g2,g3⟩
  ·have hk := ((pN_inv (by omega)).bwd s k r hby g1).1
   rw[g3,obs]
   simp only[ne00,bif_r,wi64_nat (show k≤9223372036854775807 by omega)]
   have e1:pI n s=some ((k:Int),r):=by simp only[pI,pMap,g1,Option.map_some]
   simp only[e1,obs,Int.toNat_natCast]
   have lp:=runs_loop (N:=N) (by omega) hb (n:Int) 0 (k:=k) (by omega) r k 0 N [] r j (by omega) (by omega) rfl (Nat.le_refl _) g2
   simp only[accG,endG,show ((0:Nat):Int)=0 from rfl] at lp
   rcases lp with⟨l,r',j',q1,q2,q3⟩|⟨q1,e,q2,q3⟩
   ·have hl := rep_len k q1
    obtain⟨c1,c2⟩:=accG_runs g200_caps (l:=l) hn.2
    rw[q1,q3,obs,obs]
    simp only[fineO_ok (N:=N) (l:=accG g200 0 l) (n:=(n:Int)) (by rw[accG_len];omega) (by rw[accG_len];omega),obs]
    by_cases hr:RunsOK (accR 0 l) n
    ·rw [if_pos hr, decT (c1.2 hr), c2 hr]
     exact .inl ⟨_,_,_,rfl,q2,rfl⟩
    ·rw [if_neg hr, decF fun h => hr (c1.1 h)]
     exact .inr ⟨rfl,[],0,[],12,by decide,rfl⟩
   ·rw [q1, q3, obs]
    exact .inr ⟨rfl,[],0,[],e,q2,rfl⟩
  ·rw [g3, obs]
   have he:(e != (0:Int))=true:=by simpa using g2
   simp only[he,bif_l]
   exact .inr ⟨by simp only[pI,pMap,g1,Option.map_none,Option.bind_none],[],0,[],e,g2,rfl⟩
 ·refine .inr ⟨by unfold pRuns; rw [if_neg hn], [], 0, [], 2, by decide, ?_⟩
  by_cases h1:(n:Int)<1
  ·rw[decT h1];rfl
  ·rw[decF h1,decT (show (n:Int)>200 by omega)];rfl
theorem rd_runs (hN:300<N) (hb:Fit b) {o:Option (List Int)} {c:List Int} {i e:Int} (h:Stt b o z0 c i e) {n:Nat} (hn:n≤1000000) :
  ∃ y,F26 N (c,i,e,(n:Int))=some y∧Res b (o.bind (pRuns n)) z0 y:=by
 rw[F26_eq]
 cases o with
 |none=>
  have he:(e != (0:Int))=true:=by simpa[Stt,z0] using h
  rw[he,bif_l]
  exact⟨_,rfl,h⟩
 | some s =>
  obtain⟨rfl,h1,h2⟩:=h
  have h2:e=0:=h2
  subst h2
  rw[ne00,bif_r]
  rcases rd_tables hN hb h1 hn with⟨v,r,j,g1,g2,g3⟩|⟨g1,c,j,v,e,g2,g3⟩
  ·rw [g3, obs]
   exact⟨_,rfl,by simp only[obs,g1];exact⟨rfl,g2,rfl,rfl⟩⟩
  ·rw [g3, obs]
   exact⟨_,rfl,by simp only[obs,g1];exact g2⟩
theorem rd_rest (hN:300<N) (hb:Fit b) {o:Option (List Int)} {c:List Int} {i e:Int} (h:Stt b o z0 c i e) (nm:List UInt8) (pa re:Int) :
  ∃ y:List Int×Int×Int×List Field×List Instr×List Run×List Run,(Option.bind (F22 N (c,i,e,(16:Int))) fun y3=>Option.bind (F7 N (y3.1,y3.2.1,y3.2.2.1,(200:Int))) fun y4=>Option.bind (f10.L0_10 N N (y4.2.2.2,(0:Int),y4.1,y4.2.1,y4.2.2.1,([]:List UInt8),(0:Int),(0:Int),nm,pa,re,y3.2.2.2,[])) fun y19=>Option.bind (F26 N (y19.1,y19.2.1,y19.2.2.1,(y19.2.2.2.2.2.2.2.2.2.2.length:Int))) fun y20=>Option.bind (F26 N (y20.1,y20.2.1,y20.2.2.1,(y19.2.2.2.2.2.2.2.2.2.2.length:Int))) fun y21=>some (y21.1,y21.2.1,y21.2.2.1,y19.2.2.2.2.2.2.1,y19.2.2.2.2.2.2.2.1,y19.2.2.2.2.2.2.2.2.1,y19.2.2.2.2.2.2.2.2.2.1,y19.2.2.2.2.2.2.2.2.2.2,y20.2.2.2,y21.2.2.2))=some (y.1,y.2.1,y.2.2.1,nm,pa,re,y.2.2.2)∧
   Res b (o.bind (pThen (pFields 16 32 16) fun _=>pCode limP)) z0 y:=by
 obtain⟨y3,h1,h2⟩:=rd_fields hN hb h (m:=16) (by omega)
 rw[show ((16:Nat):Int)=16 from rfl] at h1
 rw[h1,obs]
 obtain⟨y4,h3,h4,h5⟩:=rd_number (N:=N) (by omega) hb h2.st (m:=200) (by omega)
 rw[show ((200:Nat):Int)=200 from rfl] at h3
 rw[h3,obs]
 obtain⟨n,hn⟩:=Int.eq_ofNat_of_zero_le h5.1
 obtain⟨y,g1,g2,g3⟩:=rep_brk (p:=pInstr) (n:=n) (g:=z0) (b:=b) (Lf:=fun k t acc c i e=>f10.L0_10 N k (y4.2.2.2,t,c,i,e,([]:List UInt8),(0:Int),(0:Int),nm,pa,re,y3.2.2.2,acc)) (G:=fun acc c i e=>(c,i,e,([]:List UInt8),(0:Int),(0:Int),nm,pa,re,y3.2.2.2,acc))
  (fun k acc c i e=>by simp only[f10.L0_10_succ,hn,ge_dec,bif_r])
  (fun k t acc c i e ht he => by
   have he:(e != (0:Int))=true:=by simpa[z0] using he
   simp only[f10.L0_10_succ,hn,lt_dec ht,bif_l,he])
  (fun k t acc i e s ht hl hat he => by
   have he:e=0:=he
   subst he
   have q:=rd_instr (N:=N) (by omega) hb hat
   cases hp:pInstr s with
   | none =>
    rw[hp] at q
    obtain⟨c',j,x,y,z,w,e',q1,q2⟩:=q
    refine⟨(c',j,e',(x,y,z,w)),acc++[(x,y,z,w)],?_,fun _=>rfl,by rw[List.length_append,List.length_singleton];omega,?_⟩
    ·show ¬ e' = 0
     simpa using q1
    ·simp only[f10.L0_10_succ,hn,lt_dec ht,bif_l,ne00,bif_r,q2,obs,room_small (show acc.length+1≤10000000 by omega) (show 32≤1000 by omega),chk_true,wi64_succ (show t<9223372036854775807 by omega)]
   |some x=>
    rw[hp] at q
    obtain⟨j,q1,q2⟩:=q
    refine⟨(b,j,0,x.1),acc++[x.1],⟨rfl,q1,rfl,rfl⟩,fun _=>rfl,by rw[List.length_append,List.length_singleton];omega,?_⟩
    simp only[f10.L0_10_succ,hn,lt_dec ht,bif_l,ne00,bif_r,q2,obs,room_small (show acc.length+1≤10000000 by omega) (show 32≤1000 by omega),chk_true,wi64_succ (show t<9223372036854775807 by omega)]) h4.st (k:=N) (by omega)
 rw[g3,obs]
 have hc:=h4.cnt (p:=pInstr) (by rw[hn,Int.toNat_natCast];exact g1)
 obtain⟨u,q1,q2⟩:=rd_runs hN hb hc.st (n:=y.2.2.2.length) (by omega)
 simp only
 rw[q1,obs]
 obtain⟨v,q3,q4⟩:=rd_runs hN hb q2.st (n:=y.2.2.2.length) (by omega)
 rw[q3,obs]
 have r1:=q2.then (p:=pRuns y.2.2.2.length) (q:=fun _=>pRuns y.2.2.2.length) q4
 have r2:=hc.then (p:=pCnt 200 pInstr) (q:=fun l=>pThen (pRuns l.length) fun _=>pRuns l.length) r1
 have r3:=h2.then (p:=pFields 16 32 16) (q:=fun _=>pCode limP) r2
 exact⟨_,rfl,r3⟩
theorem rd_function (hN:300<N) (hb:Fit b) {o:Option (List Int)} {c:List Int} {i e:Int} (h:Stt b o z0 c i e) :
  ∃ y,F10 N (c,i,e)=some y∧Res b (o.bind (pFunc limP)) z0 y:=by
 rw[F10_eq]
 obtain⟨y0,h1,h2⟩:=rd_text (N:=N) (by omega) hb h (m:=16) (by omega)
 rw[show ((16:Nat):Int)=16 from rfl] at h1
 rw[h1,obs]
 obtain⟨y1,h3,h4,_⟩:=rd_number (N:=N) (by omega) hb h2.st (m:=16) (by omega)
 rw[show ((16:Nat):Int)=16 from rfl] at h3
 rw[h3,obs]
 have fin:∀ (z:List Int×Int×Int×Int),Res b (((o.bind (pText 16)).map (·.2)).bind (pI 16) |>.map (·.2) |>.bind pS) z0 z→∀ w:List Int×Int×Int×List Field×List Instr×List Run×List Run,Res b ((((((o.bind (pText 16)).map (·.2)).bind (pI 16)).map (·.2)).bind pS).map (·.2) |>.bind (pThen (pFields 16 32 16) fun _=>pCode limP)) z0 w→
   Res b (o.bind (pFunc limP)) z0 (w.1,w.2.1,w.2.2.1,y0.2.2.2,y1.2.2.2,z.2.2.2,w.2.2.2):=fun z hz w hw=>by
  have r1:=hz.then (p:=pS) (q:=fun _=>pThen (pFields 16 32 16) fun _=>pCode limP) hw
  have r2:=h4.then (p:=pI 16) (q:=fun _=>pThen pS fun _=>pThen (pFields 16 32 16) fun _=>pCode limP) r1
  exact h2.then (p:=pText 16) (q:=fun _=>pThen (pI 16) fun _=>pThen pS fun _=>pThen (pFields 16 32 16) fun _=>pCode limP) r2
 have hst:=h4.st
 cases ho:(((o.bind (pText 16)).map (·.2)).bind (pI 16)).map (·.2) with
 |none=>
  rw[ho] at hst fin
  have he:(y1.2.2.1==(0:Int))=false:=by simpa[Stt,z0] using hst
  rw[he,bif_r]
  have hz:Res b ((none:Option (List Int)).bind pS) z0 (y1.1,y1.2.1,y1.2.2.1,(0:Int)):=hst
  obtain⟨w,w1,w2⟩:=rd_rest hN hb (o:=none) hst y0.2.2.2 y1.2.2.2 0
  rw[w1]
  exact⟨_,rfl,fin _ hz w w2⟩
 | some s =>
  rw[ho] at hst fin
  obtain⟨e1,hat,e3⟩:=hst
  have e3:y1.2.2.1=0:=e3
  rw[e3,show ((0:Int)==0)=true from rfl,bif_l,e1]
  rcases unsigned_ok (N:=N) (by omega) hb hat with⟨v,r,j,q1,q2,q3⟩|⟨q1,c,j,e,v,q2,q3⟩
  ·have hz : Res b ((some s).bind pS) z0 (b, j, (0 : Int), v) := by simp only [obs, q1]; exact ⟨rfl, q2, rfl, rfl⟩
   rw[q3,obs]
   obtain⟨w,w1,w2⟩:=rd_rest hN hb hz.st y0.2.2.2 y1.2.2.2 v
   rw[w1]
   exact⟨_,rfl,fin _ hz w w2⟩
  ·have hz : Res b ((some s).bind pS) z0 (c, j, e, v) := by simp only [obs, q1]; exact q2
   rw[q3,obs]
   obtain⟨w,w1,w2⟩:=rd_rest hN hb hz.st y0.2.2.2 y1.2.2.2 v
   rw[w1]
   exact⟨_,rfl,fin _ hz w w2⟩
theorem chk_okI {x:Instr} (h:chkI x=true):okI x:=by
 obtain⟨a,b,c,_,h1,h2,h3⟩:=chk_shp h
 exact⟨fits_i64 h1,fits_i64 h2,fits_i64 h3⟩
theorem imgL_fit0 {L:Lim} {m:Image} (h:imgL L m) (d1:m.1.length≤100) (d2:m.2.1.length≤50) (d3:m.2.2.length≤50) (e1:L.len≤1000) (e2:L.flds≤1000) (e3:L.text≤1000) (e4:L.slots≤300):imgOK m.1 m.2.1 m.2.2:=by
 obtain⟨⟨h1,h2⟩,⟨h3,h4⟩,h5,h6⟩:=h
 refine⟨⟨⟨d1,fun i hi=>?_⟩,d2,fun s hs=>by have:=h4 s hs;omega,d3,fun f hf=>?_⟩,fun f hf=>(h6 f hf).2.2.1⟩
 ·have := h2 _ (getD_mem ty0 hi)
  show (tyn m.1 i).2.2.2.length≤1000∧i64 (tyn m.1 i).2.2.1
  have this:kindOKs L (tyn m.1 i).1 (tyn m.1 i).2:=this
  unfold kindOKs at this
  unfold i64
  split at this
  ·have e := this.2
   rw[show (tyn m.1 i).2.2=(0,[]) from e]
   exact⟨by simp,by simp⟩
  ·split at this
   ·have e := this.2.1.2
    have e0:=this.2.1.1
    rw[this.2.2]
    exact⟨by simp,by omega,by omega⟩
   ·split at this
    ·have e := this.2.2.1
     rw[this.2.1]
     exact⟨by omega,by decide⟩
    ·rw [this]
     exact⟨by simp,by simp⟩
 ·obtain ⟨g1, g2, g3, g4, ⟨g5, g6⟩, g7, g8⟩ := h6 f hf
  have:=g4.1;have:=g7.1.2
  have:=runs_len g7.2.1;have:=runs_len g8.2.1
  exact⟨by omega,by omega,by omega,by omega,fun x hx=>chk_okI (g6 x hx),g7.2.2,g8.2.2⟩
theorem imgL_fit {m:Image} (h:imgL limP m):imgOK m.1 m.2.1 m.2.2:=
 imgL_fit0 h (Nat.le_trans h.1.1 (by decide)) (Nat.le_trans h.2.1.1 (by decide)) (Nat.le_trans h.2.2.1 (by decide)) (by decide) (by decide) (by decide) (by decide)
noncomputable def decS (b:List Int):Image×Int:=
 match pImg limP b with
 |some x=>if x.2=[]∧FineOK x.1.1 x.1.2.1 x.1.2.2 then (x.1,0) else (([],[],[]),12)
 |none=>(([],[],[]),12)
theorem decode_ok (hN:1300<N) (hby:Byt b) (hl:b.length≤20000):F4 N b=some ((decS b).1.1,(decS b).1.2.1,(decS b).1.2.2,(decS b).2):=by
 have hb:Fit b:=⟨hby,by omega⟩
 rw[F4_eq,decF (show ¬(b.length:Int)>20000 by omega),bif_r]
 have h:Stt b (some b) z0 b 0 0:=⟨rfl,At.start b,rfl⟩
 obtain⟨y0,h1,h2,h3⟩:=rd_number (N:=N) (by omega) hb h (m:=32) (by omega)
 rw[show ((32:Nat):Int)=32 from rfl] at h1
 rw[h1,obs]
 obtain⟨n,hn⟩:=Int.eq_ofNat_of_zero_le h3.1
 obtain⟨y,g1,g2,g3⟩:=rep_loop (p:=pType limP) (n:=n) (g:=z0) (b:=b) (Lf:=fun k t acc c i e=>f4.L0_8 N k (b,y0.2.2.2,t,acc,c,i,e)) (G:=fun acc c i e=>(b,acc,c,i,e))
  (fun k acc c i e=>by simp only[f4.L0_8_succ,hn,ge_dec,bif_r])
  (fun k t acc c i e o ht hl hst => by
   obtain⟨u,q1,q2⟩:=rd_kind (N:=N) (by omega) hb hst
   refine⟨u,q2,?_⟩
   simp only[f4.L0_8_succ,hn,lt_dec ht,bif_l,q1,obs,room_small (show acc.length+1≤10000000 by omega) (show 48≤1000 by omega),chk_true,wi64_succ (show t<9223372036854775807 by omega)]) h2.st (k:=N) (by omega)
 rw[g3,obs]
 have hc1:=h2.cnt (p:=pType limP) (by rw[hn,Int.toNat_natCast];exact g1)
 simp only
 obtain⟨z0',h4,h5,h6⟩:=rd_number (N:=N) (by omega) hb hc1.st (m:=32) (by omega)
 rw[show ((32:Nat):Int)=32 from rfl] at h4
 rw[h4,obs]
 obtain⟨n2,hn2⟩:=Int.eq_ofNat_of_zero_le h6.1
 obtain⟨z,k1,k2,k3⟩:=rep_loop (p:=pText 64) (n:=n2) (g:=z0) (b:=b) (Lf:=fun k t acc c i e=>f4.L0_16 N k (b,z0'.2.2.2,t,y.2.2.2,acc,c,i,e)) (G:=fun acc c i e=>(b,y.2.2.2,acc,c,i,e))
  (fun k acc c i e=>by simp only[f4.L0_16_succ,hn2,ge_dec,bif_r])
  (fun k t acc c i e o ht hl hst => by
   obtain⟨u,q1,q2⟩:=rd_text (N:=N) (by omega) hb hst (m:=64) (by omega)
   rw[show ((64:Nat):Int)=64 from rfl] at q1
   refine⟨u,q2,?_⟩
   simp only[f4.L0_16_succ,hn2,lt_dec ht,bif_l,q1,obs,room_small (show acc.length+1≤10000000 by omega) (show 16≤1000 by omega),chk_true,wi64_succ (show t<9223372036854775807 by omega)]) h5.st (k:=N) (by omega)
 rw[k3,obs]
 have hc2:=h5.cnt (p:=pText 64) (by rw[hn2,Int.toNat_natCast];exact k1)
 simp only
 obtain⟨w0,h7,h8,h9⟩:=rd_number (N:=N) (by omega) hb hc2.st (m:=32) (by omega)
 rw[show ((32:Nat):Int)=32 from rfl] at h7
 rw[h7,obs]
 obtain⟨n3,hn3⟩:=Int.eq_ofNat_of_zero_le h9.1
 obtain⟨w,l1,l2,l3⟩:=rep_loop (p:=pFunc limP) (n:=n3) (g:=z0) (b:=b) (Lf:=fun k t acc c i e=>f4.L0_24 N k (b,w0.2.2.2,t,y.2.2.2,z.2.2.2,acc,c,i,e)) (G:=fun acc c i e=>(b,y.2.2.2,z.2.2.2,acc,c,i,e))
  (fun k acc c i e=>by simp only[f4.L0_24_succ,hn3,ge_dec,bif_r])
  (fun k t acc c i e o ht hl hst => by
   obtain⟨u,q1,q2⟩:=rd_function (N:=N) (by omega) hb hst
   refine⟨u,q2,?_⟩
   simp only[f4.L0_24_succ,hn3,lt_dec ht,bif_l,q1,obs,room_small (show acc.length+1≤10000000 by omega) (show 128≤1000 by omega),chk_true,wi64_succ (show t<9223372036854775807 by omega)]) h8.st (k:=N) (by omega)
 rw[l3,obs]
 have hc3:=h8.cnt (p:=pFunc limP) (by rw[hn3,Int.toNat_natCast];exact l1)
 have r1:=hc2.then (p:=pCnt 32 (pText 64)) (q:=fun _=>pCnt 32 (pFunc limP)) hc3
 have r2:=hc1.then (p:=pCnt 32 (pType limP)) (q:=fun _=>pThen (pCnt 32 (pText 64)) fun _=>pCnt 32 (pFunc limP)) r1
 have r2:Res b (pImg limP b) z0 (w.1,w.2.1,w.2.2.1,y.2.2.2,z.2.2.2,w.2.2.2):=r2
 unfold decS
 simp only
 cases hp:pImg limP b with
 |none=>
  rw[hp] at r2
  have he:(w.2.2.1 != (0:Int))=true:=by simpa[z0] using (show ¬w.2.2.1=0 from r2)
  rw[he];rfl
 | some x =>
  rw[hp] at r2
  obtain⟨e1,e2,e3,e4⟩:=r2
  have e3:w.2.2.1=0:=e3
  have e2:At b x.2 w.2.1:=e2
  have hlen:=e2.len
  have hf:=fine_ok (N:=N) hN (imgL_fit ((pImg_rev limP_wide.ok).bwd b x.1 x.2 hby hp).1).1
  rw[←e4] at hf
  simp only at hf ⊢
  rw[←e4]
  simp only
  rw[e3,ne00,bif_r]
  by_cases hr:x.2=[]
  ·have : w.2.1 = (b.length : Int) := by rw [hr] at hlen; simpa using hlen.1
   rw[this,show ((b.length:Int) != (b.length:Int))=false by simp,bif_r,hf,obs,obs]
   by_cases hfi:FineOK y.2.2.2 z.2.2.2 w.2.2.2
   ·rw[decT hfi,if_pos ⟨hr,hfi⟩];rfl
   ·rw[decF hfi,if_neg fun h=>hfi h.2];rfl
  ·have : 0 < x.2.length := List.length_pos_iff.2 hr
   rw[show (w.2.1 != (b.length:Int))=true by rw[bne_iff_ne];omega,bif_l,obs,bif_l,if_neg fun h=>hr h.1]
end
open Go Go.Eng Go.Sym
open Classical
theorem Byt.app {a b:List Int} (ha:Byt a) (hb:Byt b):Byt (a++b):=fun x hx=>(List.mem_append.1 hx).elim (ha x) (hb x)
theorem Byt.flat {α : Type} {e : α→List Int} {l:List α} (h:∀ x,x∈l→Byt (e x)):Byt (l.flatMap e):=fun y hy=>by
 obtain⟨x,hx,hxy⟩:=List.mem_flatMap.1 hy
 exact h x hx y hxy
section
variable {N:Nat} {ts:List GType} {xs:List (List UInt8)} {fs:List Func}
theorem fit_okR (hm:imgOK ts xs fs):∀ f,f∈fs→okR f.2.2.2.2.2.1∧okR f.2.2.2.2.2.2:=fun f hf=>(hm.1.2.2.2.2 f hf).2.2.2.2.2
theorem dec_img (h:FineOK ts xs fs) (hm:imgOK ts xs fs):decS (imageE ts xs fs)=((ts,xs,fs),0):=by
 have:=img_read limP_wide h (fit_okR hm) []
 rw[List.append_nil] at this
 unfold decS
 rw[this]
 exact if_pos ⟨rfl,h⟩
theorem dec_cases {b:List Int} (hb:Byt b):(decS b=(([],[],[]),12)∧∀ ts xs fs r,imgOK ts xs fs→FineOK ts xs fs→b=imageE ts xs fs++r→r≠[])∨
  ∃ ts xs fs,decS b=((ts,xs,fs),0)∧FineOK ts xs fs∧imgOK ts xs fs∧b=imageE ts xs fs:=by
 unfold decS
 cases hp:pImg limP b with
 |none=>
  refine .inl ⟨rfl,fun ts xs fs r hm hf he=>?_⟩
  have:=img_read limP_wide hf (fit_okR hm) r
  rw[←he,hp] at this
  cases this
 | some x =>
  obtain⟨⟨ts,xs,fs⟩,r⟩:=x
  simp only
  have hi:=(pImg_rev limP_wide.ok).bwd b _ _ hb hp
  by_cases hc:r=[]∧FineOK ts xs fs
  ·rw [if_pos hc]
   refine .inr ⟨ts,xs,fs,rfl,hc.2,imgL_fit hi.1,?_⟩
   have:=hi.2
   rw[hc.1,List.append_nil] at this
   exact this
  ·rw [if_neg hc]
   refine .inl ⟨rfl,fun ts' xs' fs' r' hm hf he hr=>?_⟩
   have:=img_read limP_wide hf (fit_okR hm) r'
   rw[←he,hp] at this
   injection this with this
   simp only[Prod.mk.injEq] at this
   obtain⟨⟨rfl,rfl,rfl⟩,rfl⟩:=this
   exact hc ⟨hr,hf⟩
end
theorem byt_of {b:List Int} (h:(Ty.sl (.int .u8)).ok b):Byt b:=fun x hx=>by
 have:=h.2 x hx
 have h1:(0:Int)≤x:=this.1
 have h2:x≤255:=this.2
 exact⟨h1,by omega⟩
section
variable {N:Nat} {ts:List GType} {xs:List (List UInt8)} {fs:List Func}
theorem dec_short (h:FineOK ts xs fs) (hm:imgOK ts xs fs) {b r:List Int} (hb:Byt b) (he:imageE ts xs fs=b++r) (hr:r≠[]):decS b=(([],[],[]),12):=by
 rcases dec_cases hb with⟨h1,_⟩|⟨ts',xs',fs',h1,h2,h3,h4⟩
 ·exact h1
 ·exfalso
  have e1:=img_read limP_wide h2 (fit_okR h3) r
  have e2:=img_read limP_wide h (fit_okR hm) []
  rw[List.append_nil,he,h4,e1] at e2
  injection e2 with e2
  simp only[Prod.mk.injEq] at e2
  exact hr e2.2
end
open Go Go.Eng Go.Sym
open Classical
section
variable {N:Nat} {b:List Int}
theorem check2_at (hb:Fit b) {s:List Int} {i:Int} (h:At b s i):F64 N (b,i)=some 0:=by
 obtain⟨h1,h2⟩:=h.len
 have:=hb.2
 rw[F64_eq,decF (show ¬(b.length:Int)>200000 by omega),bif_r,decF (show ¬i<0 by omega),bif_r,decF (show ¬i>(b.length:Int) by omega)]
 rfl
theorem read_loop (v i:Int) (hb:Fit b):∀ (k:Nat) (s:List Int) (a f:Nat),k≤9→k<f→a<128 ^ (9-k)→At b s (i+((9-k:Nat):Int))→0≤i→
  (∃ n r j,pvF k s=some (n,r)∧At b r j∧f65.L0_4 N f ((a:Int),((128 ^ (9-k):Nat):Int),((9-k:Nat):Int),b,i,v)=some (.inl (((a+n*128 ^ (9-k):Nat):Int),0,b,j)))∨
  (pvF k s=none∧∃ e c j,e≠0∧f65.L0_4 N f ((a:Int),((128 ^ (9-k):Nat):Int),((9-k:Nat):Int),b,i,v)=some (.inl (0,e,c,j)))
 |k,[],a,f+1,h9,hf,ha,hat,hi=>by
  obtain⟨h1,h2⟩:=hat.len
  have hl:=hb.2
  simp only[List.length_nil] at h1
  refine .inr ⟨by simp[pvF],24,[],0,by decide,?_⟩
  rw[f65.L0_4_succ,decT (show ((9-k:Nat):Int)<10 by omega),bif_l,wi64_in (n:=i+((9-k:Nat):Int)) (by omega),decT (show i+((9-k:Nat):Int)≥(b.length:Int) by omega),bif_l]
 | k, x :: s, a, f + 1, h9, hf, ha, hat, hi => by
  obtain⟨h1,h2⟩:=hat.len
  have hl:=hb.2
  have hx:=hat.byt hb x List.mem_cons_self
  simp only[List.length_cons] at h1
  obtain⟨c,rfl⟩:=Int.eq_ofNat_of_zero_le hx.1
  have hp:=pow_mono (show 9-k≤9 by omega)
  rw[f65.L0_4_succ,decT (show ((9-k:Nat):Int)<10 by omega),bif_l,wi64_in (n:=i+((9-k:Nat):Int)) (by omega),decF (show ¬i+((9-k:Nat):Int)≥(b.length:Int) by omega),bif_r,hat.idx,obs]
  have hm:Int.tmod (c:Int) (128:Int)=((c % 128:Nat):Int):=tmod_nat c 128
  have hmul:c % 128*128 ^ (9-k)≤127*128 ^ (9-k):=Nat.mul_le_mul_right _ (by omega)
  have num:(k=0→c≤1)→wu64 ((a:Int)+(wu64 (((128 ^ (9-k):Nat):Int)*(wu64 (Int.tmod (c:Int) (128:Int))))))=((a+c % 128*128 ^ (9-k):Nat):Int):=fun h0=>by
   have hb1:c % 128*128 ^ (9-k)≤128 ^ 9:=by
    by_cases hk:k=0
    ·have := h0 hk
     subst hk
     have:c % 128≤1:=by omega
     have:=Nat.mul_le_mul_right (128 ^ 9) this
     show c % 128*128 ^ 9≤_
     omega
    ·have := pow_mono (show 9 - k ≤ 8 by omega)
     omega
   rw[hm,wu64_nat (by omega),←Int.natCast_mul,Nat.mul_comm (128 ^ (9-k)),wu64_nat (by omega),show (a:Int)+((c % 128*128 ^ (9-k):Nat):Int)=((a+c % 128*128 ^ (9-k):Nat):Int) by omega,wu64_nat (by omega)]
  have hon:F66 N (b,i,(wi64 (((9-k:Nat):Int)+1)))=some (b,i+((9-k:Nat):Int)+1):=by
   rw[F66_eq,wi64_in (n:=((9-k:Nat):Int)+1) (by omega),wi64_in (by omega)]
   congr 2;omega
  by_cases hk:k=0
  ·subst hk
   rw[show (((9-0:Nat):Int)==9)=true from rfl,bif_l,obs]
   by_cases h3:(c:Int)>1
   ·rw [decT h3, bif_l]
    exact .inr ⟨by simp only[pvF];rw[if_neg (by omega)],12,[],0,by decide,rfl⟩
   ·rw [decF h3, bif_r, decT (show (c : Int) < 128 by omega), bif_l]
    by_cases h4:c=0
    ·subst h4
     exact .inr ⟨by simp[pvF],12,[],0,by decide,rfl⟩
    ·have h5 : c = 1 := by omega
     rw[show ((c:Int)==0)=false by rw[beq_eq_false_iff_ne];omega,bif_r,obs,bif_r,hon,obs,num (fun _=>by omega)]
     subst h5
     exact .inl ⟨1,s,_,by simp[pvF],hat.next,rfl⟩
  ·obtain ⟨k, rfl⟩ : ∃ j, k = j + 1 := ⟨k - 1, by omega⟩
   rw[show (((9-(k+1):Nat):Int)==9)=false by rw[beq_eq_false_iff_ne];omega,bif_r,obs,bif_r]
   by_cases h4:c<128
   ·rw [decT (show (c : Int) < 128 by omega), bif_l]
    have hb8:(bif ((c:Int)==0) then some (decide (((9-(k+1):Nat):Int)>0)) else some false)=some (decide (k≠8∧(c:Int)=0)):=by
     by_cases h0:(c:Int)=0
     ·rw [show ((c : Int) == 0) = true by simpa using h0, bif_l]
      by_cases h8:k=8
      ·subst h8;simp
      ·rw[decT (show ((9-(k+1):Nat):Int)>0 by omega),decT ⟨h8,h0⟩]
     ·rw[show ((c:Int)==0)=false by simpa using h0,bif_r,decF fun h=>h0 h.2]
    rw[hb8,obs]
    by_cases h3:k≠8∧(c:Int)=0
    ·rw [decT h3, bif_l]
     refine .inr ⟨?_,12,[],0,by decide,rfl⟩
     simp only[pvF]
     rw[if_pos (by omega),if_pos h3]
    ·rw [decF h3, bif_r, hon, obs, num (fun h => by omega)]
     refine .inl ⟨c,s,_,?_,hat.next,by rw[Nat.mod_eq_of_lt h4]⟩
     simp only[pvF]
     rw[if_pos (by omega),if_neg h3,Int.toNat_natCast]
   ·rw [decF (show ¬ (c : Int) < 128 by omega), bif_r, num (fun h => by omega)]
    have hpw:128 ^ (9-k)=128*128 ^ (9-(k+1)):=by rw[show 9-k=(9-(k+1))+1 by omega,Nat.pow_succ,Nat.mul_comm]
    have hp8:=pow_mono (show 9-(k+1)≤8 by omega)
    have e1:wu64 (((128 ^ (9-(k+1)):Nat):Int)*128)=((128 ^ (9-k):Nat):Int):=by
     rw[show (128:Int)=((128:Nat):Int) from rfl,←Int.natCast_mul,wu64_nat (by omega),hpw,Nat.mul_comm]
    have e2:wi64 (((9-(k+1):Nat):Int)+1)=((9-k:Nat):Int):=by rw[wi64_in (by omega)];omega
    have hlt:a+c % 128*128 ^ (9-(k+1))<128 ^ (9-k):=by rw[hpw];omega
    have hpp:pvF (k+1) ((c:Int) :: s)=match pvF k s with|some (n,r')=>some (c % 128+128*n,r')|none=>none:=by
     simp only[pvF]
     rw[if_neg (by omega),Int.toNat_natCast]
     try (cases pvF k s<;>rfl)
    have hnx:At b s (i+((9-k:Nat):Int)):=by
     have:=hat.next
     rw[show i+((9-(k+1):Nat):Int)+1=i+((9-k:Nat):Int) by omega] at this
     exact this
    rw[e1,e2]
    rcases read_loop v i hb k s (a+c % 128*128 ^ (9-(k+1))) f (by omega) (by omega) hlt hnx hi with⟨n,r,j,g1,g2,g3⟩|⟨g1,e,q,t,g2,g3⟩
    ·refine .inl ⟨c % 128 + 128 * n, r, j, by rw [hpp, g1], g2, ?_⟩
     have e:a+c % 128*128 ^ (9-(k+1))+n*128 ^ (9-k)=a+(c % 128+128*n)*128 ^ (9-(k+1)):=by
      rw[hpw,Nat.add_mul,Nat.mul_comm 128 n,Nat.mul_assoc,Nat.add_assoc]
     rw[g3,e]
    ·exact .inr ⟨by rw[hpp,g1],e,q,t,g2,g3⟩
 |_,_,_,0,_,h,_,_,_=>by omega
theorem read2_ok (hN:20<N) (hb:Fit b) {s:List Int} {i:Int} (h:At b s i) :
  (∃ n r j,pv s=some (n,r)∧At b r j∧F65 N (b,i)=some (b,j,(n:Int),0))∨(pv s=none∧∃ c j e,e≠0∧F65 N (b,i)=some (c,j,0,e)):=by
 rw[F65_eq]
 have h0:=h.len.2
 have lp:=read_loop (N:=N) 0 i hb 9 s 0 N (by omega) (by omega) (by simp) (by simpa using h) h0
 simp only[Nat.sub_self,Nat.pow_zero,show ((1:Nat):Int)=1 from rfl,show ((0:Nat):Int)=0 from rfl,Nat.mul_one,Nat.zero_add] at lp
 rcases lp with⟨n,r,j,g1,g2,g3⟩|⟨g1,e,c,j,g2,g3⟩
 ·rw[g3];exact .inl ⟨n,r,j,g1,g2,rfl⟩
 ·rw[g3];exact .inr ⟨g1,c,j,e,g2,rfl⟩
theorem unvary2_ok (hN:20<N) (hb:Fit b) {s:List Int} {i:Int} (h:At b s i) (m:Nat) :
  (∃ n r j,pN m s=some (n,r)∧At b r j∧F30 N (b,i,(m:Int))=some (b,j,(n:Int),0))∨(pN m s=none∧∃ c j e,e≠0∧F30 N (b,i,(m:Int))=some (c,j,0,e)):=by
 rw[F30_eq,check2_at hb h,obs,ne00,bif_r]
 rcases read2_ok hN hb h with⟨n,r,j,g1,g2,g3⟩|⟨g1,c,j,e,g2,g3⟩
 ·rw [g3, obs]
  simp only[show ((0:Int)==0)=true from rfl,bif_l,obs]
  by_cases hm:n≤m
  ·rw [decF (show ¬ (n : Int) > (m : Int) by omega), bif_r, obs, ne00, bif_r]
   exact .inl ⟨n,r,j,by simp only[pN,pFlt,g1,obs,decT hm,bif_l],g2,rfl⟩
  ·rw [decT (show (n : Int) > (m : Int) by omega), bif_l, obs]
   exact .inr ⟨by simp only[pN,pFlt,g1,obs,decF hm,bif_r],[],0,4,by decide,rfl⟩
 ·rw [g3, obs]
  have he:(e==(0:Int))=false:=by simpa using g2
  have he2:(e != (0:Int))=true:=by simpa using g2
  simp only[he,bif_r,obs,he2,bif_l]
  exact .inr ⟨by simp only[pN,pFlt,g1,Option.bind_none],[],0,e,g2,rfl⟩
theorem half_ok {n:Nat} (h:n<18446744073709551616):F94 N (n:Int)=some (unzig n):=by
 rw[F94_eq,show (2:Int)=((2:Nat):Int) from rfl,tmod_nat,tdiv_nat,wu64_nat (by omega),wi64_nat (by omega)]
 unfold unzig
 by_cases h2:n % 2=0
 ·rw[if_pos h2,h2];rfl
 ·rw [if_neg h2, show (((n % 2 : Nat) : Int) == 0) = false by rw [beq_eq_false_iff_ne]; omega, bif_r, wi64_in (n := 0 - ((n / 2 : Nat) : Int)) (by omega), wi64_in (by omega)]
  congr 1;omega
theorem unsigned2_ok (hN:20<N) (hb:Fit b) {s:List Int} {i:Int} (h:At b s i) :
  (∃ v r j,pS s=some (v,r)∧At b r j∧F67 N (b,i)=some (b,j,v,0))∨(pS s=none∧∃ c j e v,e≠0∧F67 N (b,i)=some (c,j,v,e)):=by
 rw[F67_eq]
 have hmx:=pN_max s (h.byt hb)
 have mx:(18446744073709551615:Int)=((18446744073709551615:Nat):Int):=rfl
 rw[mx]
 rcases unvary2_ok hN hb h 18446744073709551615 with⟨n,r,j,g1,g2,g3⟩|⟨g1,c,j,e,g2,g3⟩
 ·rw [hmx] at g1
  have hn:=(pv_inv.bwd s n r (h.byt hb) g1).1
  rw[g3,obs]
  simp only[ne00,bif_r]
  rw[half_ok hn,obs]
  exact .inl ⟨unzig n,r,j,by simp only[pS,pMap,g1,Option.map_some],g2,rfl⟩
 ·rw [hmx] at g1
  have he2:(e != (0:Int))=true:=by simpa using g2
  rw[g3,obs]
  simp only[he2,bif_l]
  exact .inr ⟨by simp only[pS,pMap,g1,Option.map_none],[],0,e,0,g2,rfl⟩
theorem untext2_ok (hN:20<N) (hb:Fit b) {s:List Int} {i:Int} (h:At b s i) {m:Nat} (hm:m≤200000) :
  (∃ v r j,pText m s=some (v,r)∧At b r j∧F33 N (b,i,(m:Int))=some (b,j,v,0))∨(pText m s=none∧∃ c j e v,e≠0∧F33 N (b,i,(m:Int))=some (c,j,v,e)):=by
 have hl:=hb.2
 rw[F33_eq,check2_at hb h,obs,ne00,bif_r,decF (show ¬(m:Int)<0 by omega),bif_r,decF (show ¬(m:Int)>200000 by omega),obs,bif_r,wu64_nat (show m<18446744073709551616 by omega)]
 rcases unvary2_ok hN hb h m with⟨n,r,j,g1,g2,g3⟩|⟨g1,c,j,e,g2,g3⟩
 ·have hr := g2.len
  rw[g3,obs]
  simp only[ne00,bif_r,wi64_in (show -9223372036854775808≤(b.length:Int)-j∧(b.length:Int)-j≤9223372036854775807 by omega),wu64_in (show 0≤(b.length:Int)-j∧(b.length:Int)-j≤18446744073709551615 by omega)]
  by_cases hn:n≤r.length
  ·have w1 : wi64 (n : Int) = (n : Int) := wi64_nat (by omega)
   have w2:wi64 (j+(n:Int))=j+n:=wi64_in (by omega)
   rw[decF (show ¬(b.length:Int)-j<(n:Int) by omega),bif_r]
   simp only[w1,w2,F66_eq,obs]
   rw[decT (show 0≤j by omega),chk_true,decT (show 0≤j+(n:Int) by omega),chk_true,decT (show j.toNat≤(j+(n:Int)).toNat by omega),decT (show (j+(n:Int)).toNat≤b.length by omega),Bool.and_self,chk_true,g2.drop,show (j+(n:Int)).toNat-j.toNat=n by omega]
   refine .inl ⟨_,_,_,?_,g2.skip hn,rfl⟩
   simp only[pText,pMap,pThen,g1,obs,pBytes,if_pos hn,Option.map_some]
  ·rw [decT (show (b.length : Int) - j < (n : Int) by omega), bif_l]
   refine .inr ⟨?_,[],0,24,[],by decide,rfl⟩
   simp only[pText,pMap,pThen,g1,obs,pBytes,if_neg hn,Option.map_none]
 ·rw [g3, obs]
  have he2:(e != (0:Int))=true:=by simpa using g2
  simp only[he2,bif_l]
  exact .inr ⟨by simp only[pText,pMap,pThen,g1,Option.bind_none,Option.map_none],[],0,e,[],g2,rfl⟩
theorem refStep (hN:20<N) (hb:Fit b) {s:List Int} {i:Int} (h:At b s i) {a:UInt8} (ha:a≠45) (ka:kindOK a=true) {S:Int×List Int→Option (Instr×List Int)} {R:Type} {F:List Int×Int×Int×Int→Option R} {D:Option (Instr×List Int)→Option R→Prop}
  {K1:List Int×Int×Int×Int→Int→Bool→Option R} {K2:List Int×Int×Int×Int→Bool→Option R}
  (hK:∀ y o,K2 y o=K1 y (wi64 (Int.tmod y.2.2.1 1000)) o) (hf:∀ c j v e,(e != (0:Int))=true→D none (F (c,j,v,e)))
  (hk:∀ v r j,At b r j→fits a v=true→D (S (v,r)) (K1 (b,j,v,0) v true)) (hn:∀ v w n r j,At b r j→fits a v=false→D (S (v,r)) (K1 (b,j,n,0) w false))
  (hc:∀ n v j o,K1 (b,j,n,0) v o=K1 (b,j,v,0) v o) :
  D ((pOp a s).bind S) (Option.bind (F65 N (b,i)) fun y=>bif (y.2.2.2 != (0:Int)) then F y else (bif sgn a then (Option.bind (F94 N y.2.2.1) fun v=>Option.bind (Option.bind (F95 N ((a.toNat:Int),v)) fun q=>some q) fun o=>K1 y v o)
   else (Option.bind (bif (decide (y.2.2.1<(1000:Int))) then (Option.bind (F95 N ((a.toNat:Int),(wi64 (Int.tmod y.2.2.1 (1000:Int))))) fun q=>some q) else some false) fun o=>K2 y o))):=by
 rcases read2_ok hN hb h with⟨n,r,j,g1,g2,g3⟩|⟨g1,c,j,e,g2,g3⟩
 ·have hnb := (pv_inv.bwd s n r (h.byt hb) g1).1
  rw[g3,obs]
  simp only[ne00,bif_r]
  cases hs:sgn a with
  | true =>
   have hp:pOp a s=some (unzig n,r):=by
    unfold pOp
    rw[if_neg ha,if_pos hs]
    simp only[pS,pMap,g1,Option.map_some]
   rw[hp,bif_l,half_ok hnb,obs,obs,fits06_ok ka (unzig_bd hnb),obs,obs]
   cases hfi:fits a (unzig n) with
   |true=>rw[hc];exact hk _ r j g2 hfi
   |false=>exact hn _ _ _ r j g2 hfi
  | false =>
   have hp:pOp a s=some (min (n:Int) 1048576,r):=by
    unfold pOp
    rw[if_neg ha,if_neg (by rw[hs];decide)]
    simp only[pMap,g1,Option.map_some]
   have hm:wi64 (Int.tmod (n:Int) 1000)=((n % 1000:Nat):Int):=by
    rw[show (1000:Int)=((1000:Nat):Int) from rfl,tmod_nat,wi64_nat (by omega)]
   rw[hp,bif_r,obs]
   simp only[hK,hm]
   by_cases hl:n<1000
   ·rw [decT (show (n : Int) < 1000 by omega), bif_l, Nat.mod_eq_of_lt hl, fits06_ok ka ⟨by omega, by omega⟩, obs, obs, show min (n : Int) 1048576 = (n : Int) by omega]
    cases hfi:fits a (n:Int) with
    |true=>exact hk _ r j g2 hfi
    |false=>exact hn _ _ _ r j g2 hfi
   ·rw [decF (show ¬ (n : Int) < 1000 by omega), bif_r, obs]
    refine hn _ _ _ r j g2 ?_
    cases hfi:fits a (min (n:Int) 1048576) with
    |false=>rfl
    |true=>have:=fits_bd hfi hs;omega
 ·have hp : pOp a s = none := by
   unfold pOp
   rw[if_neg ha]
   split
   ·simp only[pS,pMap,g1,Option.map_none]
   ·simp only[pMap,g1,Option.map_none]
  have he2:(e != (0:Int))=true:=by simpa using g2
  rw[hp,g3,obs]
  simp only[he2,bif_l]
  exact hf c j 0 e he2
theorem refSkip (hN:20<N) (hb:Fit b) {s:List Int} {i:Int} (h:At b s i) {a:UInt8} {R:Type} {F:List Int×Int×Int×Int→Option R} {D:Option R→Prop}
  {K1:List Int×Int×Int×Int→Int→Option R} {K2:List Int×Int×Int×Int→Option R} (hf:∀ c j v e,(e != (0:Int))=true→D (F (c,j,v,e))) (h1:∀ n v r j,At b r j→D (K1 (b,j,n,0) v)) (h2:∀ n r j,At b r j→D (K2 (b,j,n,0))) :
  D (Option.bind (F65 N (b,i)) fun y=>bif (y.2.2.2 != (0:Int)) then F y else (bif sgn a then (Option.bind (F94 N y.2.2.1) fun v=>K1 y v) else K2 y)):=by
 rcases read2_ok hN hb h with⟨n,r,j,g1,g2,g3⟩|⟨g1,c,j,e,g2,g3⟩
 ·have hnb := (pv_inv.bwd s n r (h.byt hb) g1).1
  rw[g3,obs]
  simp only[ne00,bif_r]
  cases sgn a with
  |true=>rw[bif_l,half_ok hnb];exact h1 _ _ r j g2
  |false=>rw[bif_r];exact h2 _ r j g2
 ·have he2 : (e != (0 : Int)) = true := by simpa using g2
  rw[g3,obs]
  simp only[he2,bif_l]
  exact hf c j 0 e he2
theorem rd2_instr (hN:20<N) (hb:Fit b) {s:List Int} {i:Int} (h:At b s i):DecI b (pInstr s) (F35 N (b,i)):=by
 have hl:=hb.2
 rw[F35_eq,check2_at hb h,obs,ne00,bif_r]
 suffices hs:DecI b (pInstr s) (F68 N (b,i)) by
  cases hq:F68 N (b,i) with
  |none=>
   rw[hq] at hs
   cases hp:pInstr s with
   |none=>rw[hp] at hs;obtain⟨_,_,_,_,_,_,_,_,q⟩:=hs;cases q
   |some x=>rw[hp] at hs;obtain⟨_,_,q⟩:=hs;cases q
  |some y=>rw[hq] at hs;exact hs
 rw[F68_eq]
 cases s with
 |nil=>
  have hr:=h.len.1
  simp only[List.length_nil] at hr
  rw[show (i==(b.length:Int))=true by rw[beq_iff_eq];omega,bif_l]
  exact failI rfl
 | cons op r0 =>
  have hr:=h.len
  simp only[List.length_cons] at hr
  rw[show (i==(b.length:Int))=false by rw[beq_eq_false_iff_ne];omega,bif_r,h.idx,obs,shape06_shp,obs,wi64_in (n:=i+1) (by omega)]
  have hat:=h.next
  simp only[pInstr]
  cases hs:shp op with
  |none=>exact failI rfl
  | some abc =>
   obtain⟨a,a2,a3⟩:=abc
   obtain⟨k1,k2,k3⟩:=shp_ok hs
   have p45:∀ r:List Int,pOp 45 r=some (0,r):=fun _=>rfl
   have f45:fits 45 0=true:=rfl
   have ne3:((([a,a2,a3]:List UInt8).length:Int) != 3)=false:=rfl
   have chkT:∀ x y z,fits a x=true→fits a2 y=true→fits a3 z=true→chkI (op,x,y,z)=true:=fun x y z h1 h2 h3=>by
    unfold chkI;simp only[hs,h1,h2,h3,Bool.and_self]
   have chk1:∀ x y z,fits a x=false→chkI (op,x,y,z)=false:=fun x y z h1=>by
    unfold chkI;simp only[hs,h1,Bool.false_and]
   have chk2:∀ x y z,fits a2 y=false→chkI (op,x,y,z)=false:=fun x y z h1=>by
    unfold chkI;simp only[hs,h1,Bool.false_and,Bool.and_false]
   have chk3:∀ x y z,fits a3 z=false→chkI (op,x,y,z)=false:=fun x y z h1=>by
    unfold chkI;simp only[hs,h1,Bool.and_false]
   have ne:∀ {c:UInt8},c≠45→(c==45)=false:=fun h=>by simpa using h
   simp only[ne3,bif_r,(idx3 a a2 a3).1,(idx3 a a2 a3).2.1,(idx3 a a2 a3).2.2,obs,beq45,sgn06 k1,sgn06 k2,sgn06 k3]
   rcases cases45 (shp_mono hs) with⟨rfl,rfl,rfl⟩|⟨ha,rfl,rfl⟩|⟨ha,ha2,rfl⟩|⟨ha,ha2,ha3⟩
   ·simp only [beq_self_eq_true, bif_l, p45, obs, chkT 0 0 0 f45 f45 f45, if_true]
    exact⟨_,hat,rfl⟩
   ·simp only [ne ha, beq_self_eq_true, bif_l, bif_r, p45, obs]
    refine refStep (D:=DecI b) hN hb hat ha k1 ?_ (fun _ _ _ e he=>?_) (fun v r j hj hv=>?_) (fun v w n r j hj hv=>?_) ?_
    ·exact fun _ _=>rfl
    ·exact failI he
    ·simp only[chkT v 0 0 hv f45 f45,if_true,Bool.not_true,bif_r];exact⟨j,hj,rfl⟩
    ·simp only[chk1 v 0 0 hv,Bool.not_false,bif_l];exact failI rfl
    ·exact fun _ _ _ _=>rfl
   ·simp only [ne ha, ne ha2, beq_self_eq_true, bif_l, bif_r, p45, obs]
    refine refStep (D:=DecI b) hN hb hat ha k1 ?_ (fun _ _ _ e he=>?_) (fun v r j hj hv=>?_) (fun v w n r j hj hv=>?_) ?_
    ·exact fun _ _=>rfl
    ·exact failI he
    ·simp only [bif_l, obs]
     refine refStep (D:=DecI b) hN hb hj ha2 k2 ?_ (fun _ _ _ e he=>?_) (fun v2 r j hj hv2=>?_) (fun v2 w n r j hj hv2=>?_) ?_
     ·exact fun _ _=>rfl
     ·exact failI he
     ·simp only[chkT v v2 0 hv hv2 f45,if_true,Bool.not_true,bif_r];exact⟨j,hj,rfl⟩
     ·simp only[chk2 v v2 0 hv2,Bool.not_false,bif_l];exact failI rfl
     ·exact fun _ _ _ _=>rfl
    ·simp only [bif_r, obs, Bool.not_false, bif_l]
     cases pOp a2 r with
     |none=>exact refSkip (D:=DecI b none) hN hb hj (fun _ _ _ e he=>failI he) (fun _ _ _ _ _=>failI rfl) (fun _ _ _ _=>failI rfl)
     |some y=>
      simp only[obs,chk1 v y.1 0 hv,Bool.false_eq_true,if_false]
      exact refSkip (D:=DecI b none) hN hb hj (fun _ _ _ e he=>failI he) (fun _ _ _ _ _=>failI rfl) (fun _ _ _ _=>failI rfl)
    ·exact fun _ _ _ _=>rfl
   ·simp only [ne ha, ne ha2, ne ha3, bif_r]
    refine refStep (D:=DecI b) hN hb hat ha k1 ?_ (fun _ _ _ e he=>?_) (fun v r j hj hv=>?_) (fun v w n r j hj hv=>?_) ?_
    ·exact fun _ _=>rfl
    ·exact failI he
    ·simp only [bif_l, obs]
     refine refStep (D:=DecI b) hN hb hj ha2 k2 ?_ (fun _ _ _ e he=>?_) (fun v2 r j hj hv2=>?_) (fun v2 w n r j hj hv2=>?_) ?_
     ·exact fun _ _=>rfl
     ·exact failI he
     ·simp only [bif_l, obs]
      refine refStep (D:=DecI b) hN hb hj ha3 k3 ?_ (fun _ _ _ e he=>?_) (fun v3 r j hj hv3=>?_) (fun v3 w n r j hj hv3=>?_) ?_
      ·exact fun _ _=>rfl
      ·exact failI he
      ·simp only[chkT v v2 v3 hv hv2 hv3,if_true,Bool.not_true,bif_r];exact⟨j,hj,rfl⟩
      ·simp only[chk3 v v2 v3 hv3,Bool.not_false,bif_l];exact failI rfl
      ·exact fun _ _ _ _=>rfl
     ·have : (pOp a3 r).bind (fun z => if chkI (op, v, v2, z.1) = true then some ((op, v, v2, z.1), z.2) else none) = none := by
       cases pOp a3 r with
       |none=>rfl
       |some y=>simp only[obs,chk2 v v2 y.1 hv2];rfl
      simp only[this,bif_r,obs,Bool.not_false,bif_l]
      exact refSkip (D:=DecI b none) hN hb hj (fun _ _ _ e he=>failI he) (fun _ _ _ _ _=>failI rfl) (fun _ _ _ _=>failI rfl)
     ·exact fun _ _ _ _=>rfl
    ·have : (pOp a2 r).bind (fun y => (pOp a3 y.2).bind fun z => if chkI (op, v, y.1, z.1) = true then some ((op, v, y.1, z.1), z.2) else none) = none := by
      cases pOp a2 r with
      |none=>rfl
      |some y=>
       simp only[obs]
       cases pOp a3 y.2 with
       |none=>rfl
       |some z=>simp only[obs,chk1 v y.1 z.1 hv];rfl
     simp only[this,bif_r,obs]
     exact refSkip (D:=DecI b none) hN hb hj (fun _ _ _ e he=>failI he) (fun _ _ _ _ hj=>refSkip (D:=DecI b none) hN hb hj (fun _ _ _ e he=>failI he) (fun _ _ _ _ _=>failI rfl) (fun _ _ _ _=>failI rfl)) (fun _ _ _ hj=>refSkip (D:=DecI b none) hN hb hj (fun _ _ _ e he=>failI he) (fun _ _ _ _ _=>failI rfl) (fun _ _ _ _=>failI rfl))
    ·exact fun _ _ _ _=>rfl
end
open Go Go.Eng Go.Sym
open Classical
noncomputable def zb (e:Bool):Prop:=e=false
theorem zb_not {e:Bool} (h:¬zb e):e=true:=by cases e<;>simp_all [zb]
noncomputable def limR:Lim:=⟨100,100,100,100,1000,1000,1000,1000,100,100,1000⟩
theorem limR_wide:limR.Wide:=by
 constructor
 ·constructor<;>decide
 all_goals decide
noncomputable def gR (w x:Nat):Nat:=min (w+min x 1000) 1000
theorem gR_caps:Caps gR:=fun w x _=>by unfold gR;omega
theorem endG_le:∀ (l:List (Nat×Nat)) (w:Nat),w≤1000→endG gR w l≤1000
 |[],_,h=>h
 |x :: r,w,h=>endG_le r (gR w x.1) (by unfold gR;omega)
section
variable {N:Nat} {b:List Int}
theorem rd2_number (hN:20<N) (hb:Fit b) {o:Option (List Int)} {c:List Int} {i:Int} {e:Bool} (h:Stt b o zb c i e) {m:Nat} (hm:m≤200000) :
  ∃ y,F12 N (c,i,e,(m:Int))=some y∧Res b (o.bind (pI m)) zb y∧(0≤y.2.2.2∧y.2.2.2≤m):=by
 rw[F12_eq]
 cases o with
 |none=>
  have he:=zb_not h
  subst he
  exact⟨_,rfl,h,Int.le_refl _,by simp only;omega⟩
 | some s =>
  obtain⟨rfl,h1,h2⟩:=h
  have h2:e=false:=h2
  subst h2
  rw[bif_r,wu64_nat (by omega)]
  rcases unvary2_ok hN hb h1 m with⟨n,r,j,g1,g2,g3⟩|⟨g1,c,j,e,g2,g3⟩
  ·have hn := ((pN_inv (by omega)).bwd s n r (h1.byt hb) g1).1
   rw[g3,obs]
   simp only[ne00,bif_r,wi64_nat (show n≤9223372036854775807 by omega)]
   refine⟨_,rfl,?_,by simp only;omega,by simp only;omega⟩
   simp only[obs,pI,pMap,g1,Option.map_some]
   exact⟨rfl,g2,rfl,rfl⟩
  ·have he2 : (e != (0 : Int)) = true := by simpa using g2
   rw[g3,obs]
   simp only[he2,bif_l]
   refine⟨_,rfl,?_,by simp only;omega,by simp only;omega⟩
   simp only[obs,pI,pMap,g1,Option.map_none]
   exact fun h=>(by cases h)
theorem rd2_text (hN:20<N) (hb:Fit b) {o:Option (List Int)} {c:List Int} {i:Int} {e:Bool} (h:Stt b o zb c i e) {m:Nat} (hm:m≤200000) :
  ∃ y,F14 N (c,i,e,(m:Int))=some y∧Res b (o.bind (pText m)) zb y:=by
 rw[F14_eq]
 cases o with
 |none=>
  have he:=zb_not h
  subst he
  exact⟨_,rfl,h⟩
 | some s =>
  obtain⟨rfl,h1,h2⟩:=h
  have h2:e=false:=h2
  subst h2
  rw[bif_r]
  rcases untext2_ok hN hb h1 hm with⟨v,r,j,g1,g2,g3⟩|⟨g1,c,j,e,v,g2,g3⟩
  ·rw [g3, obs]
   exact⟨_,rfl,by simp only[obs,g1];exact⟨rfl,g2,rfl,rfl⟩⟩
  ·have he2 : (e != (0 : Int)) = true := by simpa using g2
   rw[g3,obs]
   simp only[he2,bif_l]
   exact⟨_,rfl,by simp only[obs,g1];exact fun h=>(by cases h)⟩
theorem rd2_signed (hN:20<N) (hb:Fit b) {o:Option (List Int)} {c:List Int} {i:Int} {e:Bool} (h:Stt b o zb c i e) :
  ∃ y,F34 N (c,i,e)=some y∧Res b (o.bind pS) zb y:=by
 rw[F34_eq]
 cases o with
 |none=>
  have he:=zb_not h
  subst he
  exact⟨_,rfl,h⟩
 | some s =>
  obtain⟨rfl,h1,h2⟩:=h
  have h2:e=false:=h2
  subst h2
  rw[bif_r]
  rcases unsigned2_ok hN hb h1 with⟨v,r,j,g1,g2,g3⟩|⟨g1,c,j,e,v,g2,g3⟩
  ·rw [g3, obs]
   exact⟨_,rfl,by simp only[obs,g1];exact⟨rfl,g2,rfl,rfl⟩⟩
  ·have he2 : (e != (0 : Int)) = true := by simpa using g2
   rw[g3,obs]
   simp only[he2,bif_l]
   exact⟨_,rfl,by simp only[obs,g1];exact fun h=>(by cases h)⟩
theorem whileT {t n:Nat} (h:t<n):(bif (decide ((t:Int)<(n:Int))) then some (!false) else some false)=some true:=by rw[lt_dec h];rfl
theorem rd2_fields (hN:300<N) (hb:Fit b) {o:Option (List Int)} {c:List Int} {i:Int} {e:Bool} (h:Stt b o zb c i e) :
  ∃ y,F32 N (c,i,e)=some y∧Res b (o.bind (pFields 100 100 100)) zb y:=by
 rw[F32_eq]
 obtain⟨y0,h1,h2,h3⟩:=rd2_number (N:=N) (by omega) hb h (m:=100) (by omega)
 rw[show ((100:Nat):Int)=100 from rfl] at h1
 rw[h1,obs]
 obtain⟨n,hn⟩:=Int.eq_ofNat_of_zero_le h3.1
 obtain⟨y,g1,g2,g3⟩:=rep_brk (p:=pField 100 100) (n:=n) (g:=zb) (b:=b) (Lf:=fun k t acc c i e=>f32.L0_5 N k (acc,y0.2.2.2,t,c,i,e)) (G:=fun acc c i e=>(acc,c,i,e))
  (fun k acc c i e=>by simp only[f32.L0_5_succ,hn,ge_dec,bif_r,obs])
  (fun k t acc c i e ht he=>by simp only[f32.L0_5_succ,hn,lt_dec ht,bif_l,zb_not he,Bool.not_true,obs,bif_r])
  (fun k t acc i e s ht hl hat he => by
   have he:e=false:=he
   subst he
   obtain⟨u,q1,q2⟩:=rd2_text (N:=N) (by omega) hb (o:=some s) (e:=false) ⟨rfl,hat,rfl⟩ (m:=100) (by omega)
   obtain⟨v,q3,q4,_⟩:=rd2_number (N:=N) (by omega) hb q2.st (m:=100) (by omega)
   rw[show ((100:Nat):Int)=100 from rfl] at q1 q3
   refine⟨_,acc++[(u.2.2.2,v.2.2.2)],q2.then (p:=pText 100) (q:=fun _=>pI 100) q4,fun _=>rfl,by rw[List.length_append,List.length_singleton];omega,?_⟩
   simp only[f32.L0_5_succ,hn,whileT ht,bif_l,q1,q3,obs,room_small (show acc.length+1≤10000000 by omega) (show 24≤1000 by omega),chk_true,wi64_succ (show t<9223372036854775807 by omega)]) h2.st (k:=N) (by omega)
 rw[g3,obs]
 exact⟨_,rfl,h2.cnt (by rw[hn,Int.toNat_natCast];exact g1)⟩
theorem rd2_kind (hN:300<N) (hb:Fit b) {o:Option (List Int)} {c:List Int} {i:Int} {e:Bool} (h:Stt b o zb c i e) :
  ∃ y,F13 N (c,i,e)=some y∧Res b (o.bind (pType limR)) zb y:=by
 rw[F13_eq,F31_eq]
 have fail:∀ c i,∃ y,(Option.bind (some ((c:List Int),(i:Int),true,(0:Int))) fun y0=>(some ((y0.1:List Int),y0.2.1,y0.2.2.1,y0.2.2.2,(0:Int),(0:Int),([]:List Field))))=some y∧y.2.2.1=true:=fun c i=>⟨_,rfl,rfl⟩
 cases o with
 |none=>
  have he:=zb_not h
  subst he
  exact⟨_,rfl,fun h=>(by cases h)⟩
 | some s =>
  obtain⟨rfl,h1,h2⟩:=h
  have h2:e=false:=h2
  subst h2
  have hr:=h1.len
  cases s with
  |nil=>
   simp only[List.length_nil] at hr
   rw[show (i==(c.length:Int))=true by rw[beq_iff_eq];omega]
   exact⟨_,rfl,fun h=>(by cases h)⟩
  | cons x r =>
   simp only[List.length_cons] at hr
   have hl:=hb.2
   rw[show (i==(c.length:Int))=false by rw[beq_eq_false_iff_ne];omega,bif_r,obs,bif_r,h1.idx,obs,obs,wi64_in (n:=i+1) (by omega)]
   have hst:Stt c (some r) zb c (i+1) false:=⟨rfl,h1.next,rfl⟩
   have ht:(some (x :: r)).bind (pType limR)=(pKind limR x r).map fun z=>((x,z.1),z.2):=rfl
   rw[ht]
   simp only[bif_tt,obs]
   unfold pKind
   by_cases hk:x=4∨x=7
   ·have e1 : (x == (4 : Int) || x == (7 : Int)) = true := by simpa using hk
    obtain⟨u,q1,q2,_⟩:=rd2_number (N:=N) (by omega) hb hst (m:=100) (by omega)
    rw[show ((100:Nat):Int)=100 from rfl] at q1
    rw[e1,bif_l,q1,obs,if_pos hk]
    exact⟨_,rfl,(q2.map fun v=>(v,(0:Int),([]:List Field))).map fun z=>(x,z)⟩
   ·have e1 : (x == (4 : Int) || x == (7 : Int)) = false := by simpa using hk
    rw[e1,bif_r,if_neg hk]
    by_cases h6:x=6
    ·have e2 : (x == (6 : Int)) = true := by simpa using h6
     obtain⟨u,q1,q2,_⟩:=rd2_number (N:=N) (by omega) hb hst (m:=100) (by omega)
     obtain⟨v,q3,q4,_⟩:=rd2_number (N:=N) (by omega) hb q2.st (m:=100) (by omega)
     rw[show ((100:Nat):Int)=100 from rfl] at q1 q3
     rw[e2,bif_l,q1,obs,q3,obs,if_pos h6]
     have:=q2.then (p:=pI 100) (q:=fun _=>pI 100) q4
     exact⟨_,rfl,(this.map fun v=>(v.1,v.2,([]:List Field))).map fun z=>(x,z)⟩
    ·have e2 : (x == (6 : Int)) = false := by simpa using h6
     rw[e2,bif_r,if_neg h6]
     by_cases h5:x=5
     ·have e3 : (x == (5 : Int)) = true := by simpa using h5
      obtain⟨u,q1,q2⟩:=rd2_fields (N:=N) (by omega) hb hst
      rw[e3,bif_l,q1,obs,if_pos h5]
      exact⟨_,rfl,(q2.map fun v=>((0:Int),(0:Int),v)).map fun z=>(x,z)⟩
     ·have e3 : (x == (5 : Int)) = false := by simpa using h5
      rw[e3,bif_r,if_neg h5]
      exact⟨_,rfl,rfl,h1.next,rfl,rfl⟩
theorem runs2_loop (hN:20<N) (hb:Fit b) (n v:Int) {k:Nat} (hk:k≤200) (s0:List Int):∀ (m t f:Nat) (l:List (Nat×Nat)) (s:List Int) (i:Int),k=t+m→m<f→pRep pPair t s0=some (l,s)→At b s i→
  (∃ l' r j,pRep pPair k s0=some (l',r)∧At b r j∧f96.L0_12 N f (n,(k:Int),accG gR 0 l,(endG gR 0 l:Int),(t:Int),v,b,i)=some (.inr (n,accG gR 0 l',v,b,j)))∨
  (pRep pPair k s0=none∧∃ e,e≠0∧f96.L0_12 N f (n,(k:Int),accG gR 0 l,(endG gR 0 l:Int),(t:Int),v,b,i)=some (.inl (e,0)))
 |0,t,f+1,l,s,i,hm,_,hp,hat=>by
  have:k=t:=by omega
  subst this
  rw[f96.L0_12_succ,ge_dec,bif_r]
  exact .inl ⟨l,s,i,hp,hat,rfl⟩
 | m + 1, t, f + 1, l, s, i, hm, hf, hp, hat => by
  have hby:=hat.byt hb
  have hlen:=rep_len t hp
  have he:=endG_le l 0 (by omega)
  rw[f96.L0_12_succ,lt_dec (show t<k by omega),bif_l]
  have stop:pPair s=none→pRep pPair k s0=none:=fun h=>by
   rw[show k=(t+1)+m by omega]
   refine rep_none ?_ m
   simp only[pRep,hp,h]
  rcases read2_ok (N:=N) hN hb hat with⟨x,r,j,g1,g2,g3⟩|⟨g1,c,j,e,g2,g3⟩
  ·rw [g3, obs]
   simp only[ne00,bif_r]
   rcases read2_ok (N:=N) hN hb g2 with⟨y,r',j',q1,q2,q3⟩|⟨q1,c,j',e,q2,q3⟩
   ·rw [q3, obs]
    have hw1:min (wu64 ((endG gR 0 l:Int)+(min (x:Int) 1000))) 1000=((gR (endG gR 0 l) x:Nat):Int):=by
     rw[wu64_in (by omega)];unfold gR;omega
    have hg:gR (endG gR 0 l) x≤1000:=by unfold gR;omega
    have hs:=accG_snoc gR l 0 (x,y)
    simp only[ne00,bif_r,hw1,wi64_nat (show gR (endG gR 0 l) x≤9223372036854775807 by omega),room_small (show (accG gR 0 l).length+1≤10000000 by rw[accG_len];omega) (show 16≤1000 by omega),chk_true,show wu64 ((t:Int)+1)=((t+1:Nat):Int) from wu64_nat (n:=t+1) (by omega)]
    have hpp:pPair s=some ((x,y),r'):=by simp only[pPair,pThen,g1,q1,obs,Option.map_some]
    have hp':pRep pPair (t+1) s0=some (l++[(x,y)],r'):=by simp only[pRep,hp,hpp]
    have ih:=runs2_loop hN hb n v hk s0 m (t+1) f (l++[(x,y)]) r' j' (by omega) (by omega) hp' q2
    rw[hs.1,hs.2] at ih
    exact ih
   ·rw [q3, obs]
    have h':(e != (0:Int))=true:=by simpa using q2
    simp only[h',bif_l]
    exact .inr ⟨stop (by simp only[pPair,pThen,g1,q1,obs,Option.map_none]),e,q2,rfl⟩
  ·rw [g3, obs]
   have h':(e != (0:Int))=true:=by simpa using g2
   simp only[h',bif_l]
   exact .inr ⟨stop (by simp only[pPair,pThen,g1,Option.bind_none]),e,g2,rfl⟩
 |_,_,0,_,_,_,_,h,_,_=>by omega
theorem rd2_tables (hN:300<N) (hb:Fit b) {s:List Int} {i:Int} (h:At b s i) {n:Nat} (hnn:n≤1000000) :
  (∃ l r j,pRuns n s=some (l,r)∧At b r j∧F69 N (b,i,(n:Int))=some (b,j,l,0))∨(pRuns n s=none∧∃ c j l e,e≠0∧F69 N (b,i,(n:Int))=some (c,j,l,e)):=by
 have hby:=h.byt hb
 rw[F69_eq,check2_at hb h,obs,ne00,bif_r]
 by_cases hn:1≤n∧n≤200
 ·rw [pRuns_def hn]
  rw[decF (show ¬(n:Int)<1 by omega),bif_r,decF (show ¬(n:Int)>200 by omega),obs,bif_r,F96_eq]
  rcases read2_ok (N:=N) (by omega) hb h with⟨k,r,j,g1,g2,g3⟩|⟨g1,c,j,e,g2,g3⟩
  ·rw [g3, obs]
   simp only[show ((0:Int)==0)=true from rfl,bif_l,obs,wu64_nat (show n<18446744073709551616 by omega)]
   by_cases hk:k≤n
   ·have e1 : pI n s = some ((k : Int), r) := by simp only [pI, pMap, pN, pFlt, g1, obs, decT hk, bif_l, Option.map_some]
    rw[decF (show ¬(k:Int)>(n:Int) by omega),bif_r,obs,ne00,bif_r]
    simp only[e1,obs,Int.toNat_natCast]
    have lp:=runs2_loop (N:=N) (by omega) hb (n:Int) 0 (k:=k) (by omega) r k 0 N [] r j (by omega) (by omega) rfl g2
    simp only[accG,endG,show ((0:Nat):Int)=0 from rfl] at lp
    rcases lp with⟨l,r',j',q1,q2,q3⟩|⟨q1,e,q2,q3⟩
    ·have hl := rep_len k q1
     obtain⟨c1,c2⟩:=accG_runs gR_caps (l:=l) hn.2
     rw[q1,q3,obs,obs]
     simp only[fine08_ok (N:=N) (l:=accG gR 0 l) (n:=(n:Int)) (by rw[accG_len];omega) (by rw[accG_len];omega),obs]
     by_cases hr:RunsOK (accR 0 l) n
     ·rw [if_pos hr, decT (c1.2 hr), c2 hr]
      exact .inl ⟨_,_,_,rfl,q2,rfl⟩
     ·rw [if_neg hr, decF fun h => hr (c1.1 h)]
      exact .inr ⟨rfl,[],0,[],12,by decide,rfl⟩
    ·rw [q1, q3, obs, obs]
     exact .inr ⟨rfl,[],0,[],e,q2,rfl⟩
   ·have e1 : pI n s = none := by simp only [pI, pMap, pN, pFlt, g1, obs, decF hk, bif_r, Option.map_none]
    rw[decT (show (k:Int)>(n:Int) by omega),bif_l,obs,show ((4:Int) != 0)=true from rfl,bif_l,e1]
    exact .inr ⟨rfl,[],0,[],4,by decide,rfl⟩
  ·have e1 : pI n s = none := by simp only [pI, pMap, pN, pFlt, g1, Option.bind_none, Option.map_none]
   have he:(e==(0:Int))=false:=by simpa using g2
   have he2:(e != (0:Int))=true:=by simpa using g2
   rw[g3,obs]
   simp only[he,bif_r,obs,he2,bif_l,e1]
   exact .inr ⟨rfl,[],0,[],e,g2,rfl⟩
 ·refine .inr ⟨by unfold pRuns; rw [if_neg hn], [], 0, [], 2, by decide, ?_⟩
  by_cases h1:(n:Int)<1
  ·rw[decT h1];rfl
  ·rw[decF h1,decT (show (n:Int)>200 by omega)];rfl
theorem rd2_runs (hN:300<N) (hb:Fit b) {o:Option (List Int)} {c:List Int} {i:Int} {e:Bool} (h:Stt b o zb c i e) {n:Nat} (hn:n≤1000000) :
  ∃ y,F36 N (c,i,e,(n:Int))=some y∧Res b (o.bind (pRuns n)) zb y:=by
 rw[F36_eq]
 cases o with
 |none=>
  have he:=zb_not h
  subst he
  exact⟨_,rfl,h⟩
 | some s =>
  obtain⟨rfl,h1,h2⟩:=h
  have h2:e=false:=h2
  subst h2
  rw[bif_r]
  rcases rd2_tables hN hb h1 hn with⟨v,r,j,g1,g2,g3⟩|⟨g1,c,j,v,e,g2,g3⟩
  ·rw [g3, obs]
   exact⟨_,rfl,by simp only[obs,g1];exact⟨rfl,g2,rfl,rfl⟩⟩
  ·have he2 : (e != (0 : Int)) = true := by simpa using g2
   rw[g3,obs]
   simp only[he2,bif_l]
   exact⟨_,rfl,by simp only[obs,g1];exact fun h=>(by cases h)⟩
theorem rd2_function (hN:1300<N) (hb:Fit b) {o:Option (List Int)} {c:List Int} {i:Int} {e:Bool} (h:Stt b o zb c i e) :
  ∃ y,F15 N (c,i,e)=some y∧Res b (o.bind (pFunc limR)) zb y:=by
 rw[F15_eq]
 obtain⟨y0,a1,a2⟩:=rd2_text (N:=N) (by omega) hb h (m:=100) (by omega)
 rw[show ((100:Nat):Int)=100 from rfl] at a1
 rw[a1,obs]
 obtain⟨y1,b1,b2,_⟩:=rd2_number (N:=N) (by omega) hb a2.st (m:=100) (by omega)
 rw[show ((100:Nat):Int)=100 from rfl] at b1
 rw[b1,obs]
 obtain⟨y2,c1,c2⟩:=rd2_signed (N:=N) (by omega) hb b2.st
 rw[c1,obs]
 obtain⟨y3,h1,h2⟩:=rd2_fields (N:=N) (by omega) hb c2.st
 rw[h1,obs]
 obtain⟨y4,h3,h4,h5⟩:=rd2_number (N:=N) (by omega) hb h2.st (m:=1000) (by omega)
 rw[show ((1000:Nat):Int)=1000 from rfl] at h3
 rw[h3,obs]
 obtain⟨n,hn⟩:=Int.eq_ofNat_of_zero_le h5.1
 obtain⟨y,g1,g2,g3⟩:=rep_brk (p:=pInstr) (n:=n) (g:=zb) (b:=b) (Lf:=fun k t acc c i e=>f15.L0_8 N k (y4.2.2.2,t,c,i,e,([]:List UInt8),(0:Int),(0:Int),y0.2.2.2,y1.2.2.2,y2.2.2.2,y3.2.2.2,acc)) (G:=fun acc c i e=>(c,i,e,([]:List UInt8),(0:Int),(0:Int),y0.2.2.2,y1.2.2.2,y2.2.2.2,y3.2.2.2,acc))
  (fun k acc c i e=>by simp only[f15.L0_8_succ,hn,ge_dec,bif_r,obs])
  (fun k t acc c i e ht he=>by simp only[f15.L0_8_succ,hn,lt_dec ht,bif_l,zb_not he,Bool.not_true,obs,bif_r])
  (fun k t acc i e s ht hl hat he => by
   have he:e=false:=he
   subst he
   have q:=rd2_instr (N:=N) (by omega) hb hat
   cases hp:pInstr s with
   |none=>
    rw[hp] at q
    obtain⟨c',j,x,y,z,w,e',q1,q2⟩:=q
    refine⟨(b,i,true,(x,y,z,w)),acc,fun h=>(by cases h),fun h=>(by cases h),by omega,?_⟩
    simp only[f15.L0_8_succ,hn,whileT ht,bif_l,q2,q1,obs,wi64_succ (show t<9223372036854775807 by omega)]
   |some x=>
    rw[hp] at q
    obtain⟨j,q1,q2⟩:=q
    refine⟨(b,j,false,x.1),acc++[x.1],⟨rfl,q1,rfl,rfl⟩,fun _=>rfl,by rw[List.length_append,List.length_singleton];omega,?_⟩
    simp only[f15.L0_8_succ,hn,whileT ht,bif_l,ne00,bif_r,q2,obs,room_small (show acc.length+1≤10000000 by omega) (show 32≤1000 by omega),chk_true,wi64_succ (show t<9223372036854775807 by omega)]) h4.st (k:=N) (by omega)
 rw[g3,obs]
 have hc:=h4.cnt (p:=pInstr) (by rw[hn,Int.toNat_natCast];exact g1)
 obtain⟨u,q1,q2⟩:=rd2_runs (N:=N) (by omega) hb hc.st (n:=y.2.2.2.length) (by omega)
 simp only
 rw[q1,obs]
 obtain⟨v,q3,q4⟩:=rd2_runs (N:=N) (by omega) hb q2.st (n:=y.2.2.2.length) (by omega)
 rw[q3,obs]
 have r1:=q2.then (p:=pRuns y.2.2.2.length) (q:=fun _=>pRuns y.2.2.2.length) q4
 have r2:=hc.then (p:=pCnt 1000 pInstr) (q:=fun l=>pThen (pRuns l.length) fun _=>pRuns l.length) r1
 have r3:=h2.then (p:=pFields 100 100 100) (q:=fun _=>pCode limR) r2
 have r4:=c2.then (p:=pS) (q:=fun _=>pThen (pFields 100 100 100) fun _=>pCode limR) r3
 have r5:=b2.then (p:=pI 100) (q:=fun _=>pThen pS fun _=>pThen (pFields 100 100 100) fun _=>pCode limR) r4
 exact⟨_,rfl,a2.then (p:=pText 100) (q:=fun _=>pThen (pI 100) fun _=>pThen pS fun _=>pThen (pFields 100 100 100) fun _=>pCode limR) r5⟩
theorem fine09_big (hN:1300<N) {ts:List GType} {xs:List (List UInt8)} {fs:List Func} (h:imgL limR (ts,xs,fs)):F16 N (ts,xs,fs)=some (decide (FineOK ts xs fs)):=by
 by_cases h1:ts.length≤32
 ·by_cases h2 : xs.length ≤ 32 ∧ 1 ≤ fs.length ∧ fs.length ≤ 32
  ·exact fine09_ok hN (imgL_fit0 h (show ts.length≤100 by omega) (show xs.length≤50 by omega) (show fs.length≤50 by omega) (by decide) (by decide) (by decide) (by decide)).1
  ·have hty : tyFit ts := (imgL_fit0 (m := (ts, [], [])) ⟨h.1, ⟨Nat.zero_le _, fun s hs => by cases hs⟩, Nat.zero_le _, fun f hf => by cases hf⟩ (show ts.length ≤ 100 by omega) (Nat.zero_le _) (Nat.zero_le _) (by decide) (by decide) (by decide) (by decide)).1.1
   rw[F16_eq,check04_ok hN hty,decF (p:=FineOK ts xs fs) fun hf=>h2 ⟨hf.2.1,hf.2.2.1⟩]
   simp only[obs,bif_tt]
   have:(decide ((xs.length:Int)>32)||(decide ((fs.length:Int)<1)||decide ((fs.length:Int)>32)))=true:=by
    rw[Bool.or_eq_true,Bool.or_eq_true,decide_eq_true_eq,decide_eq_true_eq,decide_eq_true_eq]
    omega
   rw[this,Bool.or_true,bif_l]
 ·rw [F16_eq, F37_eq, decT (show (ts.length : Int) > 32 by omega), decF (p := FineOK ts xs fs) fun hf => h1 hf.1.1]
  rfl
noncomputable def decR (b:List Int):Image×Int:=
 match pImg limR b with
 |some x=>if x.2=[]∧FineOK x.1.1 x.1.2.1 x.1.2.2 then (x.1,0) else (([],[],[]),12)
 |none=>(([],[],[]),12)
theorem fine_fit {m:Image} (h:imgL limR m) (hf:FineOK m.1 m.2.1 m.2.2):imgOK m.1 m.2.1 m.2.2:=
 imgL_fit0 h (by have:=hf.1.1;omega) (by have:=hf.2.1;omega) (by have:=hf.2.2.1.2;omega) (by decide) (by decide) (by decide) (by decide)
theorem dec_same {b:List Int} (hb:Byt b):decR b=decS b:=by
 unfold decR
 rcases dec_cases hb with⟨h1,h2⟩|⟨ts,xs,fs,h1,h2,h3,h4⟩
 ·rw [h1]
  cases hp:pImg limR b with
  |none=>rfl
  |some x=>
   obtain⟨q1,q2⟩:=(pImg_rev limR_wide.ok).bwd b x.1 x.2 hb hp
   simp only
   rw[if_neg]
   rintro⟨h3,h4⟩
   exact h2 x.1.1 x.1.2.1 x.1.2.2 x.2 (fine_fit q1 h4) h4 q2 h3
 ·have := img_read limR_wide h2 (fit_okR h3) []
  rw[List.append_nil,←h4] at this
  rw[this,h1]
  exact if_pos ⟨rfl,h2⟩
theorem decode2_ok (hN:1300<N) (hby:Byt b) (hl:b.length≤20000):F5 N b=some ((decS b).1.1,(decS b).1.2.1,(decS b).1.2.2,(decS b).2):=by
 rw[←dec_same hby]
 have hb:Fit b:=⟨hby,by omega⟩
 rw[F5_eq,decF (show ¬(b.length:Int)>20000 by omega),bif_r]
 have h:Stt b (some b) zb b 0 false:=⟨rfl,At.start b,rfl⟩
 obtain⟨y0,h1,h2,h3⟩:=rd2_number (N:=N) (by omega) hb h (m:=1000) (by omega)
 rw[show ((1000:Nat):Int)=1000 from rfl] at h1
 rw[h1,obs]
 obtain⟨n,hn⟩:=Int.eq_ofNat_of_zero_le h3.1
 obtain⟨y,g1,g2,g3⟩:=rep_brk (p:=pType limR) (n:=n) (g:=zb) (b:=b) (Lf:=fun k t acc c i e=>f5.L0_9 N k (b,y0.2.2.2,t,c,i,e,acc)) (G:=fun acc c i e=>(b,c,i,e,acc))
  (fun k acc c i e=>by simp only[f5.L0_9_succ,hn,ge_dec,bif_r,obs])
  (fun k t acc c i e ht he=>by simp only[f5.L0_9_succ,hn,lt_dec ht,bif_l,zb_not he,Bool.not_true,obs,bif_r])
  (fun k t acc i e s ht hl hat he => by
   have he:e=false:=he
   subst he
   obtain⟨u,q1,q2⟩:=rd2_kind (N:=N) (by omega) hb (o:=some s) (e:=false) ⟨rfl,hat,rfl⟩
   refine⟨u,acc++[u.2.2.2],q2,fun _=>rfl,by rw[List.length_append,List.length_singleton];omega,?_⟩
   simp only[f5.L0_9_succ,hn,whileT ht,bif_l,q1,obs,room_small (show acc.length+1≤10000000 by omega) (show 48≤1000 by omega),chk_true,wi64_succ (show t<9223372036854775807 by omega)]) h2.st (k:=N) (by omega)
 rw[g3,obs]
 have hc1:=h2.cnt (p:=pType limR) (by rw[hn,Int.toNat_natCast];exact g1)
 simp only
 obtain⟨z0',h4,h5,h6⟩:=rd2_number (N:=N) (by omega) hb hc1.st (m:=1000) (by omega)
 rw[show ((1000:Nat):Int)=1000 from rfl] at h4
 rw[h4,obs]
 obtain⟨n2,hn2⟩:=Int.eq_ofNat_of_zero_le h6.1
 obtain⟨z,k1,k2,k3⟩:=rep_brk (p:=pText 1000) (n:=n2) (g:=zb) (b:=b) (Lf:=fun k t acc c i e=>f5.L0_18 N k (b,z0'.2.2.2,t,c,i,e,y.2.2.2,acc)) (G:=fun acc c i e=>(b,c,i,e,y.2.2.2,acc))
  (fun k acc c i e=>by simp only[f5.L0_18_succ,hn2,ge_dec,bif_r,obs])
  (fun k t acc c i e ht he=>by simp only[f5.L0_18_succ,hn2,lt_dec ht,bif_l,zb_not he,Bool.not_true,obs,bif_r])
  (fun k t acc i e s ht hl hat he => by
   have he:e=false:=he
   subst he
   obtain⟨u,q1,q2⟩:=rd2_text (N:=N) (by omega) hb (o:=some s) (e:=false) ⟨rfl,hat,rfl⟩ (m:=1000) (by omega)
   rw[show ((1000:Nat):Int)=1000 from rfl] at q1
   refine⟨u,acc++[u.2.2.2],q2,fun _=>rfl,by rw[List.length_append,List.length_singleton];omega,?_⟩
   simp only[f5.L0_18_succ,hn2,whileT ht,bif_l,q1,obs,room_small (show acc.length+1≤10000000 by omega) (show 16≤1000 by omega),chk_true,wi64_succ (show t<9223372036854775807 by omega)]) h5.st (k:=N) (by omega)
 rw[k3,obs]
 have hc2:=h5.cnt (p:=pText 1000) (by rw[hn2,Int.toNat_natCast];exact k1)
 simp only
 obtain⟨w0,h7,h8,h9⟩:=rd2_number (N:=N) (by omega) hb hc2.st (m:=1000) (by omega)
 rw[show ((1000:Nat):Int)=1000 from rfl] at h7
 rw[h7,obs]
 obtain⟨n3,hn3⟩:=Int.eq_ofNat_of_zero_le h9.1
 obtain⟨w,l1,l2,l3⟩:=rep_brk (p:=pFunc limR) (n:=n3) (g:=zb) (b:=b) (Lf:=fun k t acc c i e=>f5.L0_27 N k (b,w0.2.2.2,t,c,i,e,y.2.2.2,z.2.2.2,acc)) (G:=fun acc c i e=>(b,c,i,e,y.2.2.2,z.2.2.2,acc))
  (fun k acc c i e=>by simp only[f5.L0_27_succ,hn3,ge_dec,bif_r,obs])
  (fun k t acc c i e ht he=>by simp only[f5.L0_27_succ,hn3,lt_dec ht,bif_l,zb_not he,Bool.not_true,obs,bif_r])
  (fun k t acc i e s ht hl hat he => by
   have he:e=false:=he
   subst he
   obtain⟨u,q1,q2⟩:=rd2_function (N:=N) (by omega) hb (o:=some s) (e:=false) ⟨rfl,hat,rfl⟩
   refine⟨u,acc++[u.2.2.2],q2,fun _=>rfl,by rw[List.length_append,List.length_singleton];omega,?_⟩
   simp only[f5.L0_27_succ,hn3,whileT ht,bif_l,q1,obs,room_small (show acc.length+1≤10000000 by omega) (show 128≤1000 by omega),chk_true,wi64_succ (show t<9223372036854775807 by omega)]) h8.st (k:=N) (by omega)
 rw[l3,obs]
 have hc3:=h8.cnt (p:=pFunc limR) (by rw[hn3,Int.toNat_natCast];exact l1)
 have r1:=hc2.then (p:=pCnt 1000 (pText 1000)) (q:=fun _=>pCnt 1000 (pFunc limR)) hc3
 have r2:=hc1.then (p:=pCnt 1000 (pType limR)) (q:=fun _=>pThen (pCnt 1000 (pText 1000)) fun _=>pCnt 1000 (pFunc limR)) r1
 have r2:Res b (pImg limR b) zb (w.1,w.2.1,w.2.2.1,y.2.2.2,z.2.2.2,w.2.2.2):=r2
 unfold decR
 simp only
 cases hp:pImg limR b with
 |none=>
  rw[hp] at r2
  have he:w.2.2.1=true:=zb_not r2
  rw[he];rfl
 | some x =>
  rw[hp] at r2
  obtain⟨e1,e2,e3,e4⟩:=r2
  have e3:w.2.2.1=false:=e3
  have e2:At b x.2 w.2.1:=e2
  have hlen:=e2.len
  obtain⟨q1,q2⟩:=(pImg_rev limR_wide.ok).bwd b x.1 x.2 hby hp
  simp only
  rw[←e4] at q1 q2 ⊢
  simp only at q1 q2 ⊢
  rw[e3,bif_r]
  by_cases hr:x.2=[]
  ·have : w.2.1 = (b.length : Int) := by rw [hr] at hlen; simpa using hlen.1
   rw[this,show ((b.length:Int) != (b.length:Int))=false by simp,bif_r,fine09_big hN q1,obs]
   by_cases hfi:FineOK y.2.2.2 z.2.2.2 w.2.2.2
   ·rw [hr, List.append_nil] at q2
    rw[decT hfi,if_pos ⟨hr,hfi⟩,coded_ok hN (fine_fit q1 hfi) hfi,obs,←q2]
    simp
   ·rw[decF hfi,if_neg fun h=>hfi h.2];rfl
  ·have : 0 < x.2.length := List.length_pos_iff.2 hr
   rw[show (w.2.1 != (b.length:Int))=true by rw[bne_iff_ne];omega,bif_l,if_neg fun h=>hr h.1]
theorem imgOK_nil:imgOK ([]:List GType) ([]:List (List UInt8)) ([]:List Func):=by
 refine⟨⟨⟨by simp,fun i hi=>absurd hi (by simp)⟩,by simp,?_,by simp,?_⟩,?_⟩
 ·intro s hs;cases hs
 ·intro f hf;cases hf
 ·intro f hf;cases hf
theorem decS_fit (b:List Int) (hb:Byt b):imgOK (decS b).1.1 (decS b).1.2.1 (decS b).1.2.2:=by
 rcases dec_cases hb with⟨h1,_⟩|⟨ts,xs,fs,h1,_,h3,_⟩
 ·rw [h1]
  exact imgOK_nil
 ·rw[h1];exact h3
theorem reads_ok (hN:1300<N) (hb:Byt b):F3 N b=some true:=by
 rw[F3_eq]
 by_cases h1:(b.length:Int)>2000
 ·by_cases h2 : (b.length : Int) ≤ 20000
  ·rw[decT h1,bif_l,decT h2];rfl
  ·by_cases h3 : (b.length : Int) > 20100
   ·rw[decT h1,bif_l,decF h2,bif_r,decT h3];rfl
   ·rw [decT h1, bif_l, decF h2, bif_r, decF h3, obs, bif_r, F4_eq, decT (show (b.length : Int) > 20000 by omega), bif_l, obs, F5_eq, decT (show (b.length : Int) > 20000 by omega), bif_l, obs]
    simp only
    rw[same_ok hN imgOK_nil,obs]
    simp
 ·rw [decF h1, bif_r, decF (show ¬ (b.length : Int) > 20100 by omega), obs, bif_r, decode_ok hN hb (by omega), obs, decode2_ok hN hb (by omega), obs]
  simp only
  rw[same_ok hN (decS_fit b hb),obs]
  simp
end
theorem reads_law:∀ x,okL [.sl (.int .u8)] x→F3 6000 x=some true:=by
 intro x h
 obtain⟨h1,_⟩:=okd_get h
 exact reads_ok (by omega) (byt_of h1)
end Go.Proofs.YtlfhlggkbcncoaaGreat
