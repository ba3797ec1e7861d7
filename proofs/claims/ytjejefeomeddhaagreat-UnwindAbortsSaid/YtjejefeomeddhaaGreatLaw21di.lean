/- A part of the proof: Law21df, Law21dg, Law21dh, Law21di. -/
import Derived.Test.YtjejefeomeddhaaGreatLaw21de
set_option linter.unusedVariables false
set_option linter.unusedSimpArgs false
variable [Go.Eng.Rho]
set_option linter.unusedSectionVars false
namespace Go.Proofs.YtjejefeomeddhaaGreat
open Go Go.Eng Go.Sym
open Classical
theorem fine04_ok {N : Nat} {l : List GType} {i : Nat} (hN : 1200 < N) (hi : i < l.length) (hf : (tyn l i).2.2.2.length ≤ 1000) : F172 N (l, (i : Int)) = some (decide (TypeOK l.length i (tyn l i))) := by
 have e:idx l (i:Int)=some (tyn l i):=idx_getD _ hi
 rw[F172.eq_1,e,Option.bind_some]
 unfold TypeOK
 generalize tyn l i=t at hf
 obtain⟨k,el,le,fs⟩:=t
 simp only at hf ⊢
 rw[range_loop (by omega) (by omega)]
 simp only[beq_dec,bif_tt,bif_ff,Option.bind_some,fields04_ok (show fs.length+100<N by omega) (show fs.length≤1000000 by omega)]
 have g0:decide ((fs.length:Int)=0)=decide (fs.length=0):=by rw[decide_eq_decide];omega
 by_cases h1:k=1∨k=2∨k=3
 ·rw [show (decide (k = 1) || (decide (k = 2) || decide (k = 3))) = true by simpa using h1, bif_l, if_pos h1, g0]
  congr 1
  by_cases a1:el=0<;>by_cases a2:le=0<;>by_cases a3:fs.length=0<;>simp[a1,a2,a3]
  all_goals (intro h;simp[h] at a3)
 ·rw [show (decide (k = 1) || (decide (k = 2) || decide (k = 3))) = false by simpa using h1, bif_r, if_neg h1]
  by_cases h2:k=4∨k=7
  ·rw [show (decide (k = 4) || decide (k = 7)) = true by simpa using h2, bif_l, if_pos h2, g0]
   congr 1
   by_cases b1:0≤el<;>by_cases b2:el<(l.length:Int)<;>by_cases a2:le=0<;>by_cases a3:fs.length=0<;>simp[b1,b2,a2,a3]
   all_goals (intro h;simp[h] at a3)
  ·rw [show (decide (k = 4) || decide (k = 7)) = false by simpa using h2, bif_r, if_neg h2]
   by_cases h3:k=6
   ·rw [decide_eq_true h3, bif_l, if_pos h3, g0]
    congr 1
    by_cases b1:0≤el<;>by_cases b2:el<(i:Int)<;>by_cases a1:1≤le<;>by_cases a2:le≤16<;>by_cases a3:fs.length=0<;>simp[b1,b2,a1,a2,a3]
    all_goals (intro h;simp[h] at a3)
   ·rw [decide_eq_false h3, bif_r, if_neg h3]
    by_cases h4:k=5
    ·rw [decide_eq_true h4, bif_l, if_pos h4]
     have g3:decide ((fs.length:Int)>0)=decide (0<fs.length):=by rw[decide_eq_decide];omega
     by_cases hq:∀ f,f∈fs→0≤f.2∧f.2<(i:Int)
     ·rw [if_pos hq]
      simp only[g3,fields04_ok (show fs.length+100<N by omega) (show fs.length≤1000000 by omega),Option.bind_some,bif_ff]
      by_cases a5:FieldsOK fs
      ·by_cases a1 : el = 0 <;> by_cases a2 : le = 0 <;> by_cases a3 : 0 < fs.length <;> by_cases a4 : fs.length ≤ 8
       all_goals first
        |(rw[decT (p:=el=0∧le=0∧(0<fs.length∧fs.length≤8)∧FieldsOK fs∧∀ f,f∈fs→0≤f.2∧f.2<(i:Int)) ⟨a1,a2,⟨a3,a4⟩,a5,hq⟩,decT a1,decT a2,decT a3,decT (p:=(fs.length:Int)≤8∧FieldsOK fs) ⟨by omega,a5⟩];rfl)
        |(rw[decF (p:=el=0∧le=0∧(0<fs.length∧fs.length≤8)∧FieldsOK fs∧∀ f,f∈fs→0≤f.2∧f.2<(i:Int)) fun h=>a1 h.1,decF a1,Bool.false_and];done)
        |(rw[decF (p:=el=0∧le=0∧(0<fs.length∧fs.length≤8)∧FieldsOK fs∧∀ f,f∈fs→0≤f.2∧f.2<(i:Int)) fun h=>a2 h.2.1,decF a2,Bool.false_and,Bool.and_false];done)
        |(rw[decF (p:=el=0∧le=0∧(0<fs.length∧fs.length≤8)∧FieldsOK fs∧∀ f,f∈fs→0≤f.2∧f.2<(i:Int)) fun h=>a3 h.2.2.1.1,decF a3,Bool.false_and,Bool.and_false,Bool.and_false];done)
        |(rw[decF (p:=el=0∧le=0∧(0<fs.length∧fs.length≤8)∧FieldsOK fs∧∀ f,f∈fs→0≤f.2∧f.2<(i:Int)) fun h=>a4 h.2.2.1.2,decF (p:=(fs.length:Int)≤8∧FieldsOK fs) fun h=>a4 (by omega),Bool.and_false,Bool.and_false,Bool.and_false];done)
      ·rw[decF (p:=el=0∧le=0∧(0<fs.length∧fs.length≤8)∧FieldsOK fs∧∀ f,f∈fs→0≤f.2∧f.2<(i:Int)) fun h=>a5 h.2.2.2.1,decF (p:=(fs.length:Int)≤8∧FieldsOK fs) fun h=>a5 h.2,Bool.and_false,Bool.and_false,Bool.and_false]
     ·rw[if_neg hq,decF (p:=el=0∧le=0∧(0<fs.length∧fs.length≤8)∧FieldsOK fs∧∀ f,f∈fs→0≤f.2∧f.2<(i:Int)) fun h=>hq h.2.2.2.2]
    ·rw[decide_eq_false h4,bif_r,if_neg h4,decF (p:=False) id]
theorem TypeOK.fields {n i:Nat} {t:GType} (h:TypeOK n i t):(t.1=5∨t.2.2.2=[])∧t.2.2.2.length≤8∧∀ f,f∈t.2.2.2→0≤f.2∧f.2<i:=by
 have nil:t.2.2.2.length=0→(t.1=5∨t.2.2.2=[])∧t.2.2.2.length≤8∧∀ f,f∈t.2.2.2→0≤f.2∧f.2<i:=fun h=>by
  have e:=List.eq_nil_of_length_eq_zero h
  rw[e]
  exact⟨.inr rfl,by simp,fun f hf=>by cases hf⟩
 unfold TypeOK at h<;>grind
theorem TypeOK.ptr {n i:Nat} {t:GType} (h:TypeOK n i t) (hk:t.1=4∨t.1=7):0≤t.2.1∧t.2.1<n:=by
 unfold TypeOK at h<;>grind
theorem TypeOK.arr {n i:Nat} {t:GType} (h:TypeOK n i t) (hk:t.1=6):(0≤t.2.1∧t.2.1<i)∧1≤t.2.2.1∧t.2.2.1≤16:=by
 unfold TypeOK at h<;>grind
noncomputable def sumW (out:List Int):List Field→Int
 |[]=>0
 |f :: r=>out.getD f.2.toNat 0+sumW out r
noncomputable def wstep (below out:List Int) (t:GType):Int:=
 min (1+(if t.1=4 then below.getD t.2.1.toNat 0 else if t.1=7 then 16*below.getD t.2.1.toNat 0 else if t.1=6 then t.2.2.1*out.getD t.2.1.toNat 0 else 0)+sumW out t.2.2.2) 5001
noncomputable def wOut (below:List Int) (l:List GType):Nat→List Int
 |0=>[]
 |i+1=>wOut below l i++[wstep below (wOut below l i) (tyn l i)]
noncomputable def W (l:List Int):Prop:=∀ x,x∈l→0≤x∧x≤5001
theorem wOut_len (below:List Int) (l:List GType):∀ i,(wOut below l i).length=i
 |0=>rfl
 |i+1=>by simp[wOut,wOut_len below l i]
theorem W.getD {l:List Int} (h:W l) (i:Nat):0≤l.getD i 0∧l.getD i 0≤5001:=by
 rw[List.getD_eq_getElem?_getD]
 cases e:l[i]? with
 |none=>simp
 |some x=>exact h x (mem_of_get e)
theorem sumW_bd {out:List Int} (h:W out):∀ fs:List Field,0≤sumW out fs∧sumW out fs≤fs.length*5001
 |[]=>by simp[sumW]
 |f :: r=>by
  have:=sumW_bd h r
  have:=h.getD f.2.toNat
  simp only[sumW,List.length_cons];omega
theorem wstep_bd {below out:List Int} {n i:Nat} {t:GType} (hb:W below) (ho:W out) (ht:TypeOK n i t):0≤wstep below out t∧wstep below out t≤5001:=by
 unfold wstep
 have:=sumW_bd ho t.2.2.2
 have h1:=hb.getD t.2.1.toNat
 have h2:=ho.getD t.2.1.toNat
 have:0≤(if t.1=4 then below.getD t.2.1.toNat 0 else if t.1=7 then 16*below.getD t.2.1.toNat 0 else if t.1=6 then t.2.2.1*out.getD t.2.1.toNat 0 else 0):=by
  split
  ·omega
  ·split
   ·omega
   ·split
    ·rename_i h6
     exact Int.mul_nonneg (by have:=ht.arr h6;omega) h2.1
    ·omega
 omega
theorem wOut_W {below:List Int} {l:List GType} (hb:W below):∀ i,i≤l.length→(∀ j,j<l.length→TypeOK l.length j (tyn l j))→W (wOut below l i)
 |0,_,_=>fun x hx=>by cases hx
 |i+1,hi,ht=>fun x hx=>by
  simp[wOut,List.mem_append,List.mem_singleton] at hx
  rcases hx with hx|rfl
  ·exact wOut_W hb i (by omega) ht x hx
  ·exact wstep_bd hb (wOut_W hb i (by omega) ht) (ht i (by omega))
theorem getD_app {α : Type} {a b:List α} {i:Nat} (d : α) (h:i<a.length):(a++b).getD i d=a.getD i d:=by
 grind
theorem sumW_app {a b:List Int} : ∀ {fs:List Field},(∀ f,f∈fs→0≤f.2∧f.2<a.length)→sumW (a++b) fs=sumW a fs
 |[],_=>rfl
 |f :: r,h=>by
  have:=h f List.mem_cons_self
  rw[sumW,sumW,getD_app _ (by omega),sumW_app fun g hg=>h g (List.mem_cons_of_mem _ hg)]
theorem get_getD {l:List Int} {i:Nat} (h:i<l.length):l[i]?=some (l.getD i 0):=by
 grind
theorem inR_int {x:Int} {n:Nat} (h:0≤x∧x<n):inR x n=true:=by
 grind[inR]
theorem inner_ok {N:Nat} {fs:List Field} {now below:List Int} (hnow:W now) (a:List GType) (b c:Int) (d:List GType) (e g:Int) (hl:fs.length≤1000):∀ (r pre:List Field) (n:Int) (k:Nat),fs=pre++r→(∀ f,f∈r→0≤f.2∧f.2<now.length)→0≤n→n≤100000+pre.length*5001→r.length<k→
  f234.L0_30 N k (a,b,n,c,d,e,g,fs,(fs.length:Int),(pre.length:Int),below,now)=some (a,b,n+sumW now r,c,d,e,g,below,now):=by
 intro r
 induction r with
 |nil=>
  intro pre n k he _ _ _ hk
  obtain⟨k,rfl⟩:∃ k',k=k'+1:=⟨k-1,by simp at hk;omega⟩
  simp at he;subst he
  rw[f234.L0_30.eq_2,ge_dec,bif_r,sumW,Int.add_zero]
 |cons x r ih=>
  intro pre n k he hf h0 hn hk
  obtain⟨k,rfl⟩:∃ k',k=k'+1:=⟨k-1,by simp at hk;omega⟩
  have hlen:pre.length+(r.length+1)=fs.length:=by rw[he];simp
  have hx:idx fs (pre.length:Int)=some x:=by rw[he];exact idx_mid _ _ _
  have hx2:=hf x List.mem_cons_self
  have hg:=hnow.getD x.2.toNat
  have ih:=ih (pre++[x]) (n+now.getD x.2.toNat 0) k (by rw[he];simp) (fun f h=>hf f (List.mem_cons_of_mem _ h)) (by omega) (by rw[List.length_append,List.length_singleton];omega) (by simp at hk;omega)
  rw[f234.L0_30.eq_2,lt_dec (by omega),bif_l,hx,Option.bind_some,inR_int hx2,chk_true,get_getD (by omega),Option.bind_some,wi64_in (by omega),wi64_succ (by omega)]
  rw[show ((pre++[x]).length:Int)=((pre.length+1:Nat):Int) by simp] at ih
  rw[ih,sumW,Int.add_assoc]
theorem rep_W (n:Nat):W (List.replicate n 0):=fun x hx=>by grind
theorem W.app {a b:List Int} (ha:W a) (hb:W b):W (a++b):=fun x hx=>(List.mem_append.1 hx).elim (ha x) (hb x)
theorem set_app {a:List Int} {n i:Nat} {v:Int} (ha:a.length=i) (hi:i<n):(a++List.replicate (n-i) 0).set i v=(a++[v])++List.replicate (n-(i+1)) 0:=by
 rw[List.set_append_right _ _ (by omega),show n-i=(n-(i+1))+1 by omega,List.replicate_succ,show i-a.length=0 by omega,List.append_assoc];rfl
noncomputable def AllT (l:List GType):Prop:=∀ i,i<l.length→TypeOK l.length i (tyn l i)
theorem row_ok {N:Nat} {l:List GType} {below:List Int} (hN:1000<N) (hl:l.length≤100) (ht:AllT l) (hb:W below) (hbl:below.length=l.length) (r:Int) :
  f234.L0_11 N N (l,r,l,(l.length:Int),(0:Int),below,List.replicate l.length 0)=some (l,r,wOut below l l.length):=by
 have key := loop_up (n := l.length) (Lf := fun k i => f234.L0_11 N k (l, r, l, (l.length : Int), i, below, wOut below l i.toNat ++ List.replicate (l.length - i.toNat) 0)) (g := fun _ => some (l, r, wOut below l l.length)) (fun k => by
   simp only[f234.L0_11.eq_2,ge_dec,bif_r,Int.toNat_natCast,Nat.sub_self,List.replicate_zero,List.append_nil]) (fun k i hi ih=>by
   have e:idx l (i:Int)=some (tyn l i):=idx_getD _ hi
   have ht':=ht i hi
   have hf:=ht'.fields
   have hW:=wOut_W (i:=i) (l:=l) hb (by omega) ht
   have hol:=wOut_len below l i
   have hnl:(wOut below l i++List.replicate (l.length-i) (0:Int)).length=l.length:=by simp[hol];omega
   have hWn:W (wOut below l i++List.replicate (l.length-i) 0):=hW.app (rep_W _)
   have hsum:sumW (wOut below l i++List.replicate (l.length-i) 0) (tyn l i).2.2.2=sumW (wOut below l i) (tyn l i).2.2.2:=sumW_app fun f h=>by have:=hf.2.2 f h;rw[hol];exact this
   have hset:∀ v:Int,(wOut below l i++List.replicate (l.length-i) 0).set i v=(wOut below l i++[v])++List.replicate (l.length-(i+1)) 0:=fun v=>set_app hol hi
   have fin:∀ n:Int,0≤n→n≤100000→1+(if (tyn l i).1=4 then below.getD (tyn l i).2.1.toNat 0 else if (tyn l i).1=7 then 16*below.getD (tyn l i).2.1.toNat 0 else if (tyn l i).1=6 then (tyn l i).2.2.1*(wOut below l i).getD (tyn l i).2.1.toNat 0 else 0)=n→
     (Option.bind (f234.L0_30 N N (l, (i : Int), n, r, l, (l.length : Int), (i : Int), (tyn l i).2.2.2, ((tyn l i).2.2.2.length : Int), (0 : Int), below, wOut below l i ++ List.replicate (l.length - i) 0)) fun y31 =>
      (chk (inR y31.2.1 y31.2.2.2.2.2.2.2.2.length)
      ((Option.bind (y31.2.2.2.2.2.2.2.2[(Int.toNat y31.2.1)]?) fun x32=>
      f234.L0_11 N k (y31.1,y31.2.2.2.1,y31.2.2.2.2.1,y31.2.2.2.2.2.1,(wi64 (y31.2.2.2.2.2.2.1+(1:Int))),y31.2.2.2.2.2.2.2.1,(y31.2.2.2.2.2.2.2.2.set (Int.toNat y31.2.1) (min y31.2.2.1 (5001:Int))))))))=some (l,r,wOut below l l.length):=by
    intro n h0 hn he
    have:=inner_ok (N:=N) (below:=below) hWn l (i:Int) r l (l.length:Int) (i:Int) (fs:=(tyn l i).2.2.2) (by omega) (tyn l i).2.2.2 [] n N rfl (fun f h=>by rw[hnl];have:=hf.2.2 f h;omega) h0 (by simp;omega) (by omega)
    rw[show (([]:List Field).length:Int)=0 from rfl] at this
    rw[this,Option.bind_some]
    simp only[Int.toNat_natCast]
    rw[hnl,inR_lt hi,chk_true,get_getD (by rw[hnl];exact hi),Option.bind_some,wi64_succ (by omega),hset,hsum]
    simp only[Int.toNat_natCast] at ih
    rw[wOut,wstep,he] at ih
    exact ih
   have hbd:=hb.getD (tyn l i).2.1.toNat
   have hod:=hW.getD (tyn l i).2.1.toNat
   simp only[f234.L0_11.eq_2,lt_dec hi,bif_l,e,Option.bind_some,Int.toNat_natCast]
   by_cases h4:(tyn l i).1=4
   ·have hp := ht'.ptr (.inl h4)
    rw[if_pos h4] at fin
    rw[show ((tyn l i).1==(4:Int))=true by simp[h4],bif_l,inR_int (by omega),chk_true,get_getD (by omega),Option.bind_some,wi64_in (by omega)]
    exact fin _ (by omega) (by omega) rfl
   ·rw [show ((tyn l i).1 == (4 : Int)) = false by simp [h4], bif_r]
    rw[if_neg h4] at fin
    by_cases h7:(tyn l i).1=7
    ·have hp := ht'.ptr (.inr h7)
     rw[if_pos h7] at fin
     rw[show ((tyn l i).1==(7:Int))=true by simp[h7],bif_l,inR_int (by omega),chk_true,get_getD (by omega),Option.bind_some,wi64_in (n:=16*_) (by omega),wi64_in (by omega)]
     exact fin _ (by omega) (by omega) rfl
    ·rw [show ((tyn l i).1 == (7 : Int)) = false by simp [h7], bif_r]
     rw[if_neg h7] at fin
     by_cases h6:(tyn l i).1=6
     ·have hp := ht'.arr h6
      rw[if_pos h6] at fin
      have hm:0≤(tyn l i).2.2.1*(wOut below l i).getD (tyn l i).2.1.toNat 0∧(tyn l i).2.2.1*(wOut below l i).getD (tyn l i).2.1.toNat 0≤16*5001:=⟨Int.mul_nonneg (by omega) hod.1,Int.mul_le_mul (by omega) hod.2 hod.1 (by omega)⟩
      rw[show ((tyn l i).1==(6:Int))=true by simp[h6],bif_l,inR_int (by rw[hnl];omega),chk_true,get_getD (by rw[hnl];omega),Option.bind_some,getD_app _ (by rw[hol];omega),wi64_in (n:=(tyn l i).2.2.1*_) (by omega),wi64_in (by omega)]
      exact fin _ (by omega) (by omega) rfl
     ·rw [show ((tyn l i).1 == (6 : Int)) = false by simp [h6], bif_r]
      rw[if_neg h6] at fin
      exact fin 1 (by omega) (by omega) rfl) N 0 (by omega) (by omega)
 simpa[wOut] using key
noncomputable def wR (l:List GType):Nat→List Int
 |0=>wOut (List.replicate l.length 0) l l.length
 |d+1=>wOut (wR l d) l l.length
theorem wR_W {l:List GType} (ht:AllT l):∀ d,W (wR l d)∧(wR l d).length=l.length
 |0=>⟨wOut_W (rep_W _) _ (by omega) ht,wOut_len _ _ _⟩
 |d+1=>⟨wOut_W (wR_W ht d).1 _ (by omega) ht,wOut_len _ _ _⟩
theorem widths_ok {N:Nat} {l:List GType} (hN:1000<N) (hl:l.length≤100) (ht:AllT l):F234 N l=some (wR l 3):=by
 have hr:(decide (Int.toNat (l.length:Int)≤Int.toNat (l.length:Int))&&room (Int.toNat (l.length:Int)) 8)=true:=by
  rw[decide_eq_true (Nat.le_refl _),room_small (by omega) (by omega)];rfl
 have h0:decide (0≤(l.length:Int))=true:=decide_eq_true (by omega)
 have step:∀ (j:Nat) (b:List Int) k,j<4→W b→b.length=l.length→f234.L0_4 N (k+1) (l,(j:Int),b)=f234.L0_4 N k (l,((j+1:Nat):Int),wOut b l l.length):=fun j b k hj hb hbl=>by
  rw[f234.L0_4.eq_2,decide_eq_true (by omega),bif_l,h0,chk_true,chk_true,hr,chk_true,Int.toNat_natCast,row_ok hN hl ht hb hbl,Option.bind_some]
  simp only
  rw[wi64_succ (by omega)]
 obtain⟨k,rfl⟩:∃ k,N=k+5:=⟨N-5,by omega⟩
 rw[F234.eq_1,h0,chk_true,hr,chk_true,Int.toNat_natCast]
 have s0:=step 0 (List.replicate l.length 0) (k+4) (by omega) (rep_W _) (by simp)
 have s1:=step 1 _ (k+3) (by omega) (wR_W ht 0).1 (wR_W ht 0).2
 have s2:=step 2 _ (k+2) (by omega) (wR_W ht 1).1 (wR_W ht 1).2
 have s3:=step 3 _ (k+1) (by omega) (wR_W ht 2).1 (wR_W ht 2).2
 have e:f234.L0_4 (k+5) (k+5) (l,(0:Int),List.replicate l.length 0)=some (wR l 3):=by
  refine s0.trans (s1.trans (s2.trans (s3.trans ?_)))
  rfl
 rw[e];rfl
end Go.Proofs.YtjejefeomeddhaaGreat
set_option linter.unusedSectionVars false
namespace Go.Proofs.YtjejefeomeddhaaGreat
open Go Go.Eng Go.Sym
open Classical
noncomputable def partsOf (t:GType):List Int:=(if t.1=6 then [t.2.1] else [])++t.2.2.2.map (·.2)
theorem flatMap_one {α β : Type} (g : α→β):∀ fs:List α,fs.flatMap (fun f=>[g f])=fs.map g
 |[]=>rfl
 |x :: r=>by rw[List.flatMap_cons,flatMap_one g r];rfl
theorem parts_ok {N:Nat} {t:GType} (hN:1100<N) (hf:t.2.2.2.length≤1000):F240 N (t.1,t.2.1,t.2.2.1,t.2.2.2)=some (partsOf t):=by
 obtain⟨k,el,le,fs⟩:=t
 simp only at hf ⊢
 rw[F240.eq_1]
 have key:=fun s (hs:s.length≤1)=>loop_out (l:=fs) (enc:=fun f:Field=>[f.2]) (g:=id) (B:=10000) (m:=1) (Lf:=fun k' i (s:List Int)=>f240.L0_7 N k' (s,i,k,el,le,fs)) (fun k' s=>by
   simp only[f240.L0_7.eq_2,ge_dec,bif_r];rfl) (fun k' i x s hx hm hs=>by
   simp only[f240.L0_7.eq_2,lt_dec (len_pos hx),bif_l,idx_get hx,Option.bind_some,room_small (show s.length+1≤10000000 by omega) (show 8≤1000 by omega),chk_true,wi64_succ (show i<9223372036854775807 by have:=len_pos hx;omega)]) (fun x _=>by simp) (k:=N) (s:=s) (by omega) (by omega)
 rw[flatMap_one] at key
 unfold partsOf
 by_cases h:k=6
 ·rw [show (k == (6 : Int)) = true by simp [h], bif_l, room_small (by omega) (by omega), chk_true, key [el] (by simp)]
  simp[h]
 ·rw [show (k == (6 : Int)) = false by simp [h], bif_r, key [] (by simp)]
  simp[h]
noncomputable def byOf (t:GType):Int:=if t.1=6 then t.2.2.1 else 1
noncomputable def accW (out:List Int) (t:GType):Int→List Int→Int
 |n,[]=>n
 |n,q :: r=>accW out t (min (n+byOf t*out.getD q.toNat 0) 5001) r
theorem by_bd {n i:Nat} {t:GType} (h:TypeOK n i t):1≤byOf t∧byOf t≤16:=by
 unfold byOf
 split
 ·exact (h.arr ‹_›).2
 ·omega
theorem mul_bd {a b:Int} (ha:1≤a∧a≤16) (hb:0≤b∧b≤5001):0≤a*b∧a*b≤80016:=
 ⟨Int.mul_nonneg (by omega) hb.1,Int.le_trans (Int.mul_le_mul ha.2 hb.2 hb.1 (by omega)) (by omega)⟩
theorem inner04_ok {N:Nat} {R:List GType×Int→Option (List Int)} {l:List GType} {i:Nat} (hi:i<l.length) (ht:TypeOK l.length i (tyn l i)) {out:List Int} (ho:W out) (d:Int) (below:List Int) (ps:List Int) (hl:ps.length≤1000):∀ (r pre:List Int) (n:Int) (k:Nat),ps=pre++r→(∀ q,q∈r→0≤q∧q<out.length)→0≤n→n≤5001→r.length<k→
  f173.L0_15 N R k (l,d,below,out,(i:Int),n,ps,(pre.length:Int))=some (l,d,below,out,(i:Int),accW out (tyn l i) n r):=by
 intro r
 have e:idx l (i:Int)=some (tyn l i):=idx_getD _ hi
 induction r with
 |nil=>
  intro pre n k he _ _ _ hk
  obtain⟨k,rfl⟩:∃ k',k=k'+1:=⟨k-1,by simp at hk;omega⟩
  rw[List.append_nil] at he;subst he
  rw[f173.L0_15.eq_2,ge_dec,bif_r,accW]
 | cons x r ih =>
  intro pre n k he hf h0 hn hk
  obtain⟨k,rfl⟩:∃ k',k=k'+1:=⟨k-1,by simp at hk;omega⟩
  have hlen:pre.length+(r.length+1)=ps.length:=by rw[he];simp
  have hx:idx ps (pre.length:Int)=some x:=by rw[he];exact idx_mid _ _ _
  have hx2:=hf x List.mem_cons_self
  have hg:=mul_bd (by_bd ht) (ho.getD x.toNat)
  have ih:=ih (pre++[x]) (min (n+byOf (tyn l i)*out.getD x.toNat 0) 5001) k (by rw[he];simp) (fun f h=>hf f (List.mem_cons_of_mem _ h)) (by omega) (by omega) (by simp at hk;omega)
  have hb:(Option.bind ((bif ((tyn l i).1==(6:Int)) then (Option.bind (idx l (i:Int)) fun x17=>some x17.2.2.1) else some (1:Int))) fun b18=>
    (Option.bind (idx ps (pre.length:Int)) fun x19=>(Option.bind (idx out x19) fun x20=>
    f173.L0_15 N R k (l,d,below,out,(i:Int),(min (wi64 (n+(wi64 (b18*x20)))) (5001:Int)),ps,(wi64 ((pre.length:Int)+(1:Int))))))) =
    f173.L0_15 N R k (l,d,below,out,(i:Int),min (n+byOf (tyn l i)*out.getD x.toNat 0) 5001,ps,((pre.length+1:Nat):Int)):=by
   have ex:idx out x=some (out.getD x.toNat 0):=idx_of_get hx2.1 (get_getD (by omega))
   unfold byOf at hg ⊢
   by_cases h6:(tyn l i).1=6
   ·rw [if_pos h6] at hg ⊢
    rw[show ((tyn l i).1==(6:Int))=true by simp[h6],bif_l,e,Option.bind_some,Option.bind_some,hx,Option.bind_some,ex,Option.bind_some,wi64_in (n:=(tyn l i).2.2.1*_) (by omega),wi64_in (by omega),wi64_succ (by omega)]
   ·rw [if_neg h6] at hg ⊢
    rw[show ((tyn l i).1==(6:Int))=false by simp[h6],bif_r,Option.bind_some,hx,Option.bind_some,ex,Option.bind_some,wi64_in (n:=1*_) (by omega),wi64_in (by omega),wi64_succ (by omega)]
  rw[f173.L0_15.eq_2,lt_dec (by omega),bif_l,e,Option.bind_some,←e,hb]
  rw[show ((pre++[x]).length:Int)=((pre.length+1:Nat):Int) by simp] at ih
  rw[ih,accW]
theorem accW_fields {out:List Int} {t:GType} (ho:W out) (h6:t.1≠6):∀ (fs:List Field) (n:Int),0≤n→n≤5001→accW out t n (fs.map (·.2))=min (n+sumW out fs) 5001
 |[],n,h0,hn=>by rw[List.map_nil,accW,sumW];omega
 |f :: r,n,h0,hn=>by
  have hg:=ho.getD f.2.toNat
  have hs:=sumW_bd ho r
  rw[List.map_cons,accW,byOf,if_neg h6,accW_fields ho h6 r _ (by omega) (by omega),sumW]
  omega
theorem acc_ok {out:List Int} {n i:Nat} {t:GType} (ho:W out) (ht:TypeOK n i t):accW out t 1 (partsOf t)=min (1+(if t.1=6 then t.2.2.1*out.getD t.2.1.toNat 0 else 0)+sumW out t.2.2.2) 5001:=by
 unfold partsOf
 by_cases h6:t.1=6
 ·have hf : t.2.2.2 = [] := ht.fields.1.resolve_left (by omega)
  rw[if_pos h6,if_pos h6,hf,List.map_nil,List.append_nil,accW,accW,byOf,if_pos h6,sumW];omega
 ·rw[if_neg h6,if_neg h6,List.nil_append,accW_fields ho h6 _ _ (by omega) (by omega)];omega
theorem rep_getD (n i:Nat):(List.replicate n (0:Int)).getD i 0=0:=by
 rw[List.getD_eq_getElem?_getD,List.getElem?_replicate];split<;>rfl
theorem row04_ok {N:Nat} {R:List GType×Int→Option (List Int)} {l:List GType} (hN:1100<N) (hl:l.length≤100) (ht:AllT l) (hf:∀ i,i<l.length→(tyn l i).2.2.2.length≤1000) {d:Nat} {below b':List Int} (hb':W b') (hd:d=0∧b'=List.replicate l.length 0∨0<d∧d≤10∧below=b'∧b'.length=l.length) :
  f173.L0_8 N R N (l,(d:Int),below,[],(0:Int))=some (wOut b' l l.length):=by
 have key := loop_up (n := l.length) (Lf := fun k i => f173.L0_8 N R k (l, (d : Int), below, wOut b' l i.toNat, i)) (g := fun _ => some (wOut b' l l.length)) (fun k => by
   simp only[f173.L0_8.eq_2,ge_dec,bif_r,Int.toNat_natCast]) (fun k i hi ih=>by
   have e:idx l (i:Int)=some (tyn l i):=idx_getD _ hi
   have ht':=ht i hi
   have hff:=ht'.fields
   have hW:=wOut_W (i:=i) (l:=l) hb' (by omega) ht
   have hol:=wOut_len b' l i
   have hps:∀ q,q∈partsOf (tyn l i)→0≤q∧q<(wOut b' l i).length:=by
    intro q hq
    rw[hol]
    unfold partsOf at hq
    rw[List.mem_append] at hq
    rcases hq with hq|hq
    ·split at hq
     ·rw [List.mem_singleton] at hq; subst hq
      exact (ht'.arr ‹_›).1
     ·cases hq
    ·obtain ⟨f, h1, rfl⟩ := List.mem_map.1 hq
     exact hff.2.2 f h1
   have hpl:(partsOf (tyn l i)).length≤1000:=by
    unfold partsOf
    rw[List.length_append,List.length_map]
    split
    ·simp;omega
    ·simp;omega
   have hin:=inner04_ok (N:=N) (R:=R) hi ht' hW (d:Int) below (partsOf (tyn l i)) hpl (partsOf (tyn l i)) [] 1 N rfl hps (by omega) (by omega) (by omega)
   rw[show (([]:List Int).length:Int)=0 from rfl,acc_ok hW ht'] at hin
   simp only[Int.toNat_natCast] at ih ⊢
   rw[wOut] at ih
   have hbd:=hb'.getD (tyn l i).2.1.toNat
   have hod:=hW.getD (tyn l i).2.1.toNat
   have hsb:=sumW_bd hW (tyn l i).2.2.2
   have hroom:room ((wOut b' l i).length+1) 8=true:=room_small (by omega) (by omega)
   have fin:∀ b31:Int,b31=wstep b' (wOut b' l i) (tyn l i)→f173.L0_8 N R k (l,(d:Int),below,wOut b' l i++[b31],((i+1:Nat):Int))=some (wOut b' l l.length):=by
    rintro _ rfl;exact ih
   simp only[f173.L0_8.eq_2,lt_dec hi,bif_l,e,Option.bind_some,parts_ok (t:=tyn l i) hN (hf i hi),hin,hroom,chk_true,wi64_succ (show i<9223372036854775807 by omega)]
   rcases hd with⟨rfl,hd⟩|⟨hd,hd10,rfl,hbl⟩
   ·rw [show decide (((0 : Nat) : Int) > 0) = false from rfl, bif_r, bif_r, Option.bind_some, bif_r, Option.bind_some, Option.bind_some, bif_r, Option.bind_some]
    refine fin _ ?_
    unfold wstep
    rw[hd,rep_getD]
    split<;>(try split)<;>(try split)<;>first|omega|rfl
   ·rw [decide_eq_true (show (d : Int) > 0 by omega), bif_l, bif_l, Option.bind_some]
    unfold wstep at fin
    by_cases h4:(tyn l i).1=4
    ·have hp := ht'.ptr (.inl h4)
     have hfs:(tyn l i).2.2.2=[]:=hff.1.resolve_left (by omega)
     rw[show ((tyn l i).1==(4:Int))=true by simp[h4],bif_l,idx_of_get hp.1 (get_getD (by omega)),Option.bind_some,Option.bind_some,Option.bind_some,show ((tyn l i).1==(7:Int))=false by simp[h4],bif_r,Option.bind_some,if_neg (by omega)]
     refine fin _ ?_
     rw[if_pos h4,hfs,sumW,wi64_in (by omega)];omega
    ·rw [show ((tyn l i).1 == (4 : Int)) = false by simp [h4], bif_r, Option.bind_some, Option.bind_some]
     rw[if_neg h4] at fin
     by_cases h7:(tyn l i).1=7
     ·have hp := ht'.ptr (.inr h7)
      have hfs:(tyn l i).2.2.2=[]:=hff.1.resolve_left (by omega)
      rw[show ((tyn l i).1==(7:Int))=true by simp[h7],bif_l,idx_of_get hp.1 (get_getD (by omega)),Option.bind_some,Option.bind_some,if_neg (by omega)]
      refine fin _ ?_
      rw[if_pos h7,hfs,sumW,wi64_in (n:=16*_) (by omega),wi64_in (by omega)];omega
     ·rw [show ((tyn l i).1 == (7 : Int)) = false by simp [h7], bif_r, Option.bind_some]
      rw[if_neg h7] at fin
      exact fin _ rfl) N 0 (by omega) (by omega)
 simpa[wOut] using key
theorem widths04_ok {l:List GType} (hl:l.length≤100) (ht:AllT l) (hf:∀ i,i<l.length→(tyn l i).2.2.2.length≤1000):∀ (d N:Nat),d≤10→1200+d<N→F173 N (l,(d:Int))=some (wR l d)
 |0,N,_,hN=>by
  obtain⟨N,rfl⟩:∃ k,N=k+1:=⟨N-1,by omega⟩
  rw[F173.eq_2,show decide (((0:Nat):Int)>0)=false from rfl,bif_r,row04_ok (by omega) hl ht hf (rep_W l.length) (.inl ⟨rfl,rfl⟩)];rfl
 |d+1,N,hd,hN=>by
  obtain⟨N,rfl⟩:∃ k,N=k+1:=⟨N-1,by omega⟩
  rw[F173.eq_2,decide_eq_true (by omega),bif_l,wi64_in (by omega),show ((d+1:Nat):Int)-1=(d:Int) by omega,widths04_ok hl ht hf d N (by omega) (by omega),Option.bind_some,row04_ok (by omega) hl ht hf (wR_W ht d).1 (.inr ⟨by omega,by omega,rfl,(wR_W ht d).2⟩)];rfl
noncomputable def TableOK (l:List GType):Prop:=l.length≤32∧AllT l∧∀ x,x∈wR l 3→x≤5000
noncomputable def tyFit (l:List GType):Prop:=l.length≤100∧∀ i,i<l.length→(tyn l i).2.2.2.length≤1000∧i64 (tyn l i).2.2.1
theorem checkK_ok {N:Nat} {l:List GType} (hN:1300<N) (hl:tyFit l):F151 N l=some (if TableOK l then 0 else 8):=by
 rw[F151.eq_1]
 by_cases h32:l.length≤32
 ·rw [decide_eq_false (show ¬ (l.length : Int) > 32 by omega), bif_r]
  have key:=loop_rng (n:=l.length) (a:=(.inr l:Int⊕List GType)) (b:=.inl 8) (q:=fun i=>!decide (TypeOK l.length i (tyn l i))) (Lf:=fun k i=>f151.L0_6 N k (l,(l.length:Int),i)) (fun k _=>by
    simp only[f151.L0_6.eq_2,ge_dec,bif_r]) (fun k i hi _=>by
    simp only[f151.L0_6.eq_2,lt_dec hi,bif_l,fineK_ok (show 1100<N by omega) hi (hl.2 i hi).1 (hl.2 i hi).2,Option.bind_some,wi64_succ (show i<9223372036854775807 by omega)]
    by_cases ht:TypeOK l.length i (tyn l i)
    ·rw[decT ht];rfl
    ·rw[decF ht];rfl) (k:=N) (by omega)
  rw[key,ex_not,Option.bind_some]
  by_cases hall:AllT l
  ·rw [if_pos (show ∀ i, i < l.length → decide (TypeOK l.length i (tyn l i)) = true from fun i hi => decT (hall i hi))]
   simp only
   rw[widths_ok (by omega) hl.1 hall,Option.bind_some]
   have hW:=wR_W hall 3
   have key2:=loop_lst (l:=wR l 3) (a:=(.inr ():Int⊕Unit)) (b:=.inl 8) (p:=fun x=>!decide (x≤5000)) (Lf:=fun k i=>f151.L0_17 N k (wR l 3,((wR l 3).length:Int),i)) (fun k _=>by
     simp only[f151.L0_17.eq_2,ge_dec,bif_r]) (fun k i x hx hm=>by
     simp only[f151.L0_17.eq_2,lt_dec (len_pos hx),bif_l,idx_get hx,Option.bind_some,wi64_succ (show i<9223372036854775807 by have:=len_pos hx;omega)]
     by_cases h5:x≤5000
     ·rw[decF (show ¬x>5000 by omega),decT h5];rfl
     ·rw[decT (show x>5000 by omega),decF h5];rfl) (k:=N) (by omega)
   rw[key2,ex_notL,Option.bind_some]
   by_cases h5:∀ x,x∈wR l 3→x≤5000
   ·rw[if_pos fun x hx=>decT (h5 x hx),if_pos ⟨h32,hall,h5⟩]
   ·rw[if_neg fun h=>h5 fun x hx=>of_decide_eq_true (h x hx),if_neg fun h=>h5 h.2.2]
  ·rw[if_neg fun h=>hall fun i hi=>of_decide_eq_true (h i hi),if_neg fun h=>hall h.2.1]
 ·rw[decide_eq_true (show (l.length:Int)>32 by omega),bif_l,if_neg fun h=>h32 h.1]
theorem check04_ok {N:Nat} {l:List GType} (hN:1300<N) (hl:tyFit l):F97 N l=some (if TableOK l then 0 else 8):=by
 rw[F97.eq_1]
 by_cases h32:l.length≤32
 ·rw [decide_eq_false (show ¬ (l.length : Int) > 32 by omega), bif_r]
  have key:=loop_rng (n:=l.length) (a:=(.inr l:Int⊕List GType)) (b:=.inl 8) (q:=fun i=>!decide (TypeOK l.length i (tyn l i))) (Lf:=fun k i=>f97.L0_6 N k (l,i)) (fun k _=>by
    simp only[f97.L0_6.eq_2,ge_dec,bif_r]) (fun k i hi _=>by
    simp only[f97.L0_6.eq_2,lt_dec hi,bif_l,fine04_ok (show 1200<N by omega) hi (hl.2 i hi).1,Option.bind_some,wi64_succ (show i<9223372036854775807 by omega)]
    by_cases ht:TypeOK l.length i (tyn l i)
    ·rw[decT ht];rfl
    ·rw[decF ht];rfl) (k:=N) (by omega)
  rw[key,ex_not,Option.bind_some]
  by_cases hall:AllT l
  ·rw [if_pos (show ∀ i, i < l.length → decide (TypeOK l.length i (tyn l i)) = true from fun i hi => decT (hall i hi))]
   simp only
   have hw:=widths04_ok hl.1 hall (fun i hi=>(hl.2 i hi).1) 3 N (by omega) (by omega)
   rw[show ((3:Nat):Int)=3 from rfl] at hw
   rw[hw,Option.bind_some]
   have hW:=wR_W hall 3
   have key2:=loop_lst (l:=wR l 3) (a:=(.inr ():Int⊕Unit)) (b:=.inl 8) (p:=fun x=>!decide (x≤5000)) (Lf:=fun k i=>f97.L0_17 N k (l,wR l 3,i)) (fun k _=>by
     simp only[f97.L0_17.eq_2,hW.2,ge_dec,bif_r]) (fun k i x hx hm=>by
     have:=len_pos hx
     rw[hW.2] at this
     simp only[f97.L0_17.eq_2,lt_dec this,bif_l,idx_get hx,Option.bind_some,wi64_succ (show i<9223372036854775807 by omega)]
     by_cases h5:x≤5000
     ·rw[decF (show ¬x>5000 by omega),decT h5];rfl
     ·rw[decT (show x>5000 by omega),decF h5];rfl) (k:=N) (by omega)
   rw[key2,ex_notL,Option.bind_some]
   by_cases h5:∀ x,x∈wR l 3→x≤5000
   ·rw[if_pos fun x hx=>decT (h5 x hx),if_pos ⟨h32,hall,h5⟩]
   ·rw[if_neg fun h=>h5 fun x hx=>of_decide_eq_true (h x hx),if_neg fun h=>h5 h.2.2]
  ·rw[if_neg fun h=>hall fun i hi=>of_decide_eq_true (h i hi),if_neg fun h=>hall h.2.1]
 ·rw[decide_eq_true (show (l.length:Int)>32 by omega),bif_l,if_neg fun h=>h32 h.1]
end Go.Proofs.YtjejefeomeddhaaGreat
set_option linter.unusedSectionVars false
namespace Go.Proofs.YtjejefeomeddhaaGreat
open Go Go.Eng Go.Sym
open Classical
noncomputable def up (a s:Int):Int:=(s+a-1) / a*a
theorem up_one (s:Int):up 1 s=s:=by unfold up;omega
theorem up_eight (s:Int):up 8 s=(s+7) / 8*8:=by unfold up;omega
noncomputable def AL (a:Int):Prop:=a=1∨a=8
theorem up_bd {a s:Int} (ha:AL a) (hs:0≤s):s≤up a s∧up a s≤s+7:=by
 rcases ha with rfl|rfl
 ·rw[up_one];omega
 ·rw[up_eight];omega
theorem up_cap {a s C:Int} (ha:AL a) (hC:C % 8=0) (hs:s≤C):up a s≤C:=by
 rcases ha with rfl|rfl
 ·rw[up_one];omega
 ·rw[up_eight];omega
theorem andnot7 (n:Nat) (hn:n<18446744073709551616):(BitVec.ofNat 64 n &&& ~~~(7#64)).toNat=n / 8*8:=by
 have e:n / 8*8=(n >>> 3) <<< 3:=by omega
 rw[e]
 refine Nat.eq_of_testBit_eq fun k=>?_
 rw[BitVec.toNat_and,Nat.testBit_and,BitVec.toNat_ofNat,Nat.mod_eq_of_lt hn,BitVec.testBit_toNat,BitVec.getLsbD_not,Nat.testBit_shiftLeft,Nat.testBit_shiftRight]
 rcases Nat.lt_or_ge k 64 with h|h
 ·rw [decide_eq_true h, Bool.true_and]
  by_cases h3:k<3
  ·have : k = 0 ∨ k = 1 ∨ k = 2 := by omega
   rcases this with rfl|rfl|rfl<;>simp
  ·rw [decide_eq_true (show k ≥ 3 by omega), Bool.true_and, show 3 + (k - 3) = k by omega]
   have:(7#64).getLsbD k=false:=by
    rw[BitVec.getLsbD_ofNat,Nat.testBit_lt_two_pow (x:=7) (i:=k) (Nat.lt_of_lt_of_le (show 7<2 ^ 3 by omega) (Nat.pow_le_pow_right (by omega) (by omega))),Bool.and_false]
   grind
 ·have h1:n.testBit k=false:=Nat.testBit_lt_two_pow (Nat.lt_of_lt_of_le hn (by rw[show 18446744073709551616=2 ^ 64 by decide];exact Nat.pow_le_pow_right (by omega) h))<;>grind
theorem iandnot_up {a s:Int} (ha:AL a) (hs:0≤s∧s≤4000000):iandnot .i64 (wi64 ((wi64 (s+a))-(1:Int))) (wi64 (a-(1:Int)))=up a s:=by
 rcases ha with rfl|rfl
 ·rw [wi64_in (n := s + 1) (by omega), show s + 1 - 1 = s by omega, wi64_in (by omega), show wi64 ((1 : Int) - 1) = 0 from by decide, up_one]
  obtain⟨n,rfl⟩:=Int.eq_ofNat_of_zero_le hs.1
  unfold iandnot
  have e:(BitVec.ofInt IntKind.i64.bits ((n:Nat):Int) &&& ~~~(BitVec.ofInt IntKind.i64.bits 0)).toNat=n:=by
   show (BitVec.ofInt 64 ((n:Nat):Int) &&& ~~~(BitVec.ofInt 64 0)).toNat=n
   rw[show ~~~(BitVec.ofInt 64 0)=BitVec.allOnes 64 by decide,BitVec.and_allOnes,BitVec.ofInt_natCast,BitVec.toNat_ofNat];omega
  rw[e];exact wi64_in (by omega)
 ·rw [wi64_in (n := s + 8) (by omega), show s + 8 - 1 = s + 7 by omega, wi64_in (by omega), show wi64 ((8 : Int) - 1) = 7 from by decide, up_eight]
  obtain⟨n,rfl⟩:=Int.eq_ofNat_of_zero_le hs.1
  unfold iandnot
  have e:(BitVec.ofInt IntKind.i64.bits ((n:Int)+7) &&& ~~~(BitVec.ofInt IntKind.i64.bits 7)).toNat=(n+7) / 8*8:=by
   show (BitVec.ofInt 64 ((n:Int)+7) &&& ~~~(BitVec.ofInt 64 7)).toNat=_
   rw[show (n:Int)+7=((n+7:Nat):Int) by omega,BitVec.ofInt_natCast]
   exact andnot7 _ (by omega)
  rw[e,show IntKind.i64.wrap (((n+7) / 8*8:Nat):Int)=(((n+7) / 8*8:Nat):Int) from wi64_in (by omega)]
  omega
theorem up05_ok {N:Nat} {a s:Int} (ha:AL a) (hs:0≤s∧s≤4000000):F120 N (s,a)=some (up a s):=by
 rw[F120.eq_1]
 rcases ha with rfl|rfl
 ·rw[show (!decide ((1:Int)=0))=true from rfl,chk_true,wi64_in (n:=s+1) (by omega),show s+1-1=s by omega,wi64_in (n:=s) (by omega),Int.tdiv_one,wi64_in (n:=s) (by omega),wi64_in (by omega),up_one,Int.mul_one]
 ·rw[show (!decide ((8:Int)=0))=true from rfl,chk_true,wi64_in (n:=s+8) (by omega),show s+8-1=s+7 by omega,wi64_in (n:=s+7) (by omega),Int.tdiv_eq_ediv_of_nonneg (by omega),wi64_in (n:=(s+7) / 8) (by omega),wi64_in (by omega),up_eight]
abbrev Ex:=Int×Int
noncomputable def exn (x:List Ex) (i:Int):Ex:=x.getD i.toNat (0,1)
noncomputable def layF (C:Int) (x:List Ex):Int→Int→List Field→List Int×Int×Int
 |s,a,[]=>([],s,a)
 |s,a,f :: r=>
  let q:=layF C x (min C (up (exn x f.2).2 s+(exn x f.2).1)) (max a (exn x f.2).2) r
  (up (exn x f.2).2 s :: q.1,q.2.1,q.2.2)
noncomputable def EX (C:Int) (x:List Ex):Prop:=∀ e,e∈x→AL e.2∧0≤e.1∧e.1≤C
theorem EX.get {C:Int} (hC:0≤C) {x:List Ex} (h:EX C x) (i:Int):AL (exn x i).2∧0≤(exn x i).1∧(exn x i).1≤C:=by
 unfold exn
 rw[List.getD_eq_getElem?_getD]
 cases e:x[i.toNat]? with
 |none=>exact⟨.inl rfl,by show (0:Int)≤0;omega,hC⟩
 |some y=>exact h y (mem_of_get e)
theorem AL.max {a b:Int} (ha:AL a) (hb:AL b):AL (max a b):=by
 grind
theorem layF_bd {C:Int} (hC:0≤C) {x:List Ex} (hx:EX C x):∀ (fs:List Field) (s a:Int),0≤s→s≤C→AL a→(0≤(layF C x s a fs).2.1∧(layF C x s a fs).2.1≤C)∧AL (layF C x s a fs).2.2∧(layF C x s a fs).1.length=fs.length
 |[],s,a,h0,hs,ha=>⟨⟨h0,hs⟩,ha,rfl⟩
 |f :: r,s,a,h0,hs,ha=>by
  obtain⟨e1,e2,e3⟩:=hx.get hC f.2
  have hu:=up_bd e1 h0
  obtain⟨g1,g2,g3⟩:=layF_bd hC hx r (min C (up (exn x f.2).2 s+(exn x f.2).1)) (max a (exn x f.2).2) (by omega) (by omega) (ha.max e1)
  simp only[layF]<;>grind
theorem idx_exn {x:List Ex} {i:Int} (h:0≤i∧i<x.length):idx x i=some (exn x i):=by
 refine idx_of_get h.1 ?_
 unfold exn<;>grind
theorem exn_app {a b:List Ex} {i:Int} (h:0≤i∧i<a.length):exn (a++b) i=exn a i:=getD_app _ (by omega)
theorem lay_loop {N:Nat} {x b:List Ex} (hx:EX 1048576 x) {fs:List Field} (hl:fs.length≤1000) (c1 c2:Int):∀ (r pre:List Field) (os:List Int) (s a:Int) (k:Nat),fs=pre++r→os.length=pre.length→(∀ f,f∈r→0≤f.2∧f.2<x.length)→0≤s→s≤1048576→AL a→r.length<k→
  f153.L0_4 N k (x++b,fs,(fs.length:Int),(pre.length:Int),c1,c2,os++List.replicate r.length 0,s,a)=some (c1,c2,os++(layF 1048576 x s a r).1,(layF 1048576 x s a r).2.1,(layF 1048576 x s a r).2.2):=by
 intro r
 induction r with
 |nil=>
  intro pre os s a k he _ _ _ _ _ hk
  obtain⟨k,rfl⟩:∃ k',k=k'+1:=⟨k-1,by simp at hk;omega⟩
  simp at he;subst he
  rw[f153.L0_4.eq_2,ge_dec];rfl
 | cons f r ih =>
  intro pre os s a k he ho hf h0 hs ha hk
  obtain⟨k,rfl⟩:∃ k',k=k'+1:=⟨k-1,by simp at hk;omega⟩
  have hlen:pre.length+(r.length+1)=fs.length:=by rw[he];simp
  have hxf:idx fs (pre.length:Int)=some f:=by rw[he];exact idx_mid _ _ _
  have hf2:=hf f List.mem_cons_self
  have hif:idx (x++b) f.2=some (exn x f.2):=by rw[idx_exn (by rw[List.length_append];omega),exn_app hf2]
  obtain⟨e1,e2,e3⟩:=hx.get (by omega) f.2
  have hu:=up_bd e1 h0
  have huc:=up_cap (C:=1048576) e1 (by omega) hs
  have hol:(os++List.replicate (f :: r).length (0:Int)).length=fs.length:=by simp[ho];omega
  have hset:∀ v:Int,(os++List.replicate (f :: r).length (0:Int)).set pre.length v=(os++[v])++List.replicate r.length 0:=fun v=>by
   rw[List.set_append_right _ _ (by omega),List.length_cons,List.replicate_succ,show pre.length-os.length=0 by omega,List.set_cons_zero,List.append_assoc];rfl
  have ih:=ih (pre++[f]) (os++[up (exn x f.2).2 s]) (min 1048576 (up (exn x f.2).2 s+(exn x f.2).1)) (max a (exn x f.2).2) k (by rw[he];simp) (by simp[ho]) (fun g h=>hf g (List.mem_cons_of_mem _ h)) (by omega) (by omega) (ha.max e1) (by simp at hk;omega)
  rw[f153.L0_4.eq_2,lt_dec (by omega),bif_l,hxf,Option.bind_some,hif,Option.bind_some,inR_int (by rw[hol];omega),chk_true,iandnot_up e1 ⟨h0,by omega⟩,Int.toNat_natCast,get_getD (by rw[hol];omega),Option.bind_some,hset,inR_int (by simp[ho];omega),chk_true]
  have hg:(os++[up (exn x f.2).2 s]++List.replicate r.length (0:Int))[pre.length]?=some (up (exn x f.2).2 s):=by
   rw[List.append_assoc,List.getElem?_append_right (by omega),ho,Nat.sub_self];rfl
  rw[hg,Option.bind_some,wi64_succ (by omega),wi64_in (by omega)]
  rw[show ((pre++[f]).length:Int)=((pre.length+1:Nat):Int) by simp] at ih
  rw[ih]
  simp only[layF]
  rw[List.append_assoc];rfl
theorem lay_ok {N:Nat} {x b:List Ex} (hN:1100<N) (hx:EX 1048576 x) {fs:List Field} (hl:fs.length≤1000) (hf:∀ f,f∈fs→0≤f.2∧f.2<x.length) :
  F153 N (x++b,fs)=some ((layF 1048576 x 0 1 fs).1,up (layF 1048576 x 0 1 fs).2.2 (layF 1048576 x 0 1 fs).2.1,(layF 1048576 x 0 1 fs).2.2):=by
 have h0:decide (0≤(fs.length:Int))=true:=decide_eq_true (by omega)
 have hr:(decide (Int.toNat (fs.length:Int)≤Int.toNat (fs.length:Int))&&room (Int.toNat (fs.length:Int)) 8)=true:=by
  rw[decide_eq_true (Nat.le_refl _),room_small (by omega) (by omega)];rfl
 have:=lay_loop (N:=N) (b:=b) hx hl 0 0 fs [] [] 0 1 N rfl rfl hf (by omega) (by omega) (.inl rfl) (by omega)
 simp at this
 obtain⟨b1,b2,_⟩:=layF_bd (C:=1048576) (by omega) hx fs 0 1 (by omega) (by omega) (.inl rfl)
 rw[F153.eq_1,h0,chk_true,chk_true,hr,chk_true,Int.toNat_natCast,this,Option.bind_some]
 rw[iandnot_up b2 ⟨b1.1,by omega⟩]
theorem idx_map {α β : Type} {g : α→β} {x:List α} {i:Int} {y : α} (h:idx x i=some y):idx (x.map g) i=some (g y):=by
 grind[idx]
theorem tog_loop {N:Nat} {x:List Ex} (hx:EX 1000000 x) {fs:List Field} (hl:fs.length≤1000):∀ (r pre:List Field) (os:List Int) (s a:Int) (k:Nat),fs=pre++r→os.length=pre.length→(∀ f,f∈r→0≤f.2∧f.2<x.length)→0≤s→s≤1000000→AL a→r.length<k→
  f174.L0_5 N k (x.map (·.1),x.map (·.2),fs,os,s,a,(pre.length:Int))=some (os++(layF 1000000 x s a r).1,(layF 1000000 x s a r).2.1,(layF 1000000 x s a r).2.2):=by
 intro r
 induction r with
 |nil=>
  intro pre os s a k he _ _ _ _ _ hk
  obtain⟨k,rfl⟩:∃ k',k=k'+1:=⟨k-1,by simp at hk;omega⟩
  simp at he;subst he
  rw[f174.L0_5.eq_2,ge_dec,bif_r]
  simp[layF,List.append_nil]
 |cons f r ih=>
  intro pre os s a k he ho hf h0 hs ha hk
  obtain⟨k,rfl⟩:∃ k',k=k'+1:=⟨k-1,by simp at hk;omega⟩
  have hlen:pre.length+(r.length+1)=fs.length:=by rw[he];simp
  have hxf:idx fs (pre.length:Int)=some f:=by rw[he];exact idx_mid _ _ _
  have hf2:=hf f List.mem_cons_self
  obtain⟨e1,e2,e3⟩:=hx.get (by omega) f.2
  have hu:=up_bd e1 h0
  have huc:=up_cap (C:=1000000) e1 (by omega) hs
  have hi:=idx_exn hf2
  have ih:=ih (pre++[f]) (os++[up (exn x f.2).2 s]) (min 1000000 (up (exn x f.2).2 s+(exn x f.2).1)) (max a (exn x f.2).2) k (by rw[he];simp) (by simp[ho]) (fun g h=>hf g (List.mem_cons_of_mem _ h)) (by omega) (by omega) (ha.max e1) (by simp at hk;omega)
  rw[f174.L0_5.eq_2,lt_dec (by omega),bif_l,hxf,Option.bind_some,idx_map (g:=fun e:Ex=>e.2) hi,Option.bind_some,up05_ok e1 ⟨h0,by omega⟩,Option.bind_some,room_small (by omega) (by omega),chk_true,idx_map (g:=fun e:Ex=>e.1) hi,Option.bind_some,Option.bind_some,wi64_succ (by omega),wi64_in (by omega)]
  rw[show ((pre++[f]).length:Int)=((pre.length+1:Nat):Int) by simp] at ih
  rw[ih]
  simp only[layF]
  rw[List.append_assoc];rfl
theorem tog_ok {N:Nat} {x:List Ex} (hN:1100<N) (hx:EX 1000000 x) {fs:List Field} (hl:fs.length≤1000) (hf:∀ f,f∈fs→0≤f.2∧f.2<x.length) :
  F174 N (x.map (·.1),x.map (·.2),fs)=some ((layF 1000000 x 0 1 fs).1,up (layF 1000000 x 0 1 fs).2.2 (layF 1000000 x 0 1 fs).2.1,(layF 1000000 x 0 1 fs).2.2):=by
 have:=tog_loop (N:=N) hx hl fs [] [] 0 1 N rfl rfl hf (by omega) (by omega) (.inl rfl) (by omega)
 obtain⟨b1,b2,_⟩:=layF_bd (C:=1000000) (by omega) hx fs 0 1 (by omega) (by omega) (.inl rfl)
 have:=up_cap (C:=1000000) b2 (by omega) b1.2
 rw[F174.eq_1,‹f174.L0_5 N N _=_›,Option.bind_some,up05_ok b2 ⟨b1.1,by omega⟩,Option.bind_some]<;>grind
noncomputable def estep (C:Int) (out:List Ex) (t:GType):Ex:=
 if t.1=1 then (1,1) else if t.1=3 then (16,8) else if t.1=7 then (24,8)
 else if t.1=6 then (min C (t.2.2.1*(exn out t.2.1).1),(exn out t.2.1).2)
 else if t.1=5 then (up (layF C out 0 1 t.2.2.2).2.2 (layF C out 0 1 t.2.2.2).2.1,(layF C out 0 1 t.2.2.2).2.2)
 else (8,8)
noncomputable def eOut (C:Int) (l:List GType):Nat→List Ex
 |0=>[]
 |i+1=>eOut C l i++[estep C (eOut C l i) (tyn l i)]
theorem eOut_len (C:Int) (l:List GType):∀ i,(eOut C l i).length=i
 |0=>rfl
 |i+1=>by simp[eOut,eOut_len C l i]
theorem mul_bd16 {a b C:Int} (ha:1≤a∧a≤16) (hb:0≤b∧b≤C) (_hC:0≤C):0≤a*b∧a*b≤16*C:=
 ⟨Int.mul_nonneg (by omega) hb.1,Int.mul_le_mul ha.2 hb.2 hb.1 (by omega)⟩
theorem estep_ex {C:Int} (hC:1000≤C) (h8:C % 8=0) {out:List Ex} (ho:EX C out) {n i:Nat} {t:GType} (ht:TypeOK n i t):AL (estep C out t).2∧0≤(estep C out t).1∧(estep C out t).1≤C:=by
 unfold estep
 have ha:=ho.get (by omega) t.2.1
 obtain⟨b1,b2,_⟩:=layF_bd (C:=C) (by omega) ho t.2.2.2 0 1 (by omega) (by omega) (.inl rfl)
 have hc:=up_cap b2 h8 b1.2
 have hu:=up_bd b2 b1.1
 split
 ·exact⟨.inl rfl,by show (0:Int)≤1;omega,by show (1:Int)≤C;omega⟩
 ·split
  ·exact⟨.inr rfl,by show (0:Int)≤16;omega,by show (16:Int)≤C;omega⟩
  ·split
   ·exact⟨.inr rfl,by show (0:Int)≤24;omega,by show (24:Int)≤C;omega⟩
   ·split
    ·rename_i h6
     have:=mul_bd16 (ht.arr h6).2 ha.2 (by omega)<;>grind
    ·split
     ·grind
     ·exact⟨.inr rfl,by show (0:Int)≤8;omega,by show (8:Int)≤C;omega⟩
theorem eOut_EX {C:Int} (hC:1000≤C) (h8:C % 8=0) {l:List GType} (ht:AllT l):∀ i,i≤l.length→EX C (eOut C l i)
 |0,_=>fun e he=>by cases he
 |i+1,hi=>fun e he=>by
  simp[eOut,List.mem_append,List.mem_singleton] at he
  rcases he with he|rfl
  ·exact eOut_EX hC h8 ht i (by omega) e he
  ·exact estep_ex hC h8 (eOut_EX hC h8 ht i (by omega)) (ht i (by omega))
theorem set_ex {a:List Ex} {n i:Nat} {v:Ex} (ha:a.length=i) (hi:i<n):(a++List.replicate (n-i) (0,0)).set i v=(a++[v])++List.replicate (n-(i+1)) (0,0):=by
 rw[List.set_append_right _ _ (by omega),show n-i=(n-(i+1))+1 by omega,List.replicate_succ,show i-a.length=0 by omega,List.append_assoc];rfl
end Go.Proofs.YtjejefeomeddhaaGreat
set_option linter.unusedSectionVars false
namespace Go.Proofs.YtjejefeomeddhaaGreat
open Go Go.Eng Go.Sym
open Classical
theorem kinds_cases {n i:Nat} {t:GType} (h:TypeOK n i t):t.1=1∨t.1=2∨t.1=3∨t.1=4∨t.1=5∨t.1=6∨t.1=7:=by
 unfold TypeOK at h<;>grind
theorem extents_ok {N:Nat} {l:List GType} (hN:1100<N) (hl:l.length≤100) (ht:AllT l):F152 N l=some (eOut 1048576 l l.length):=by
 have h0:decide (0≤(l.length:Int))=true:=decide_eq_true (by omega)
 have hr:(decide (Int.toNat (l.length:Int)≤Int.toNat (l.length:Int))&&room (Int.toNat (l.length:Int)) 16)=true:=by
  rw[decide_eq_true (Nat.le_refl _),room_small (by omega) (by omega)];rfl
 rw[F152.eq_1,h0,chk_true,hr,chk_true,Int.toNat_natCast]
 have key := loop_up (n := l.length) (Lf := fun k i => f152.L0_4 N k (l, (l.length : Int), i, eOut 1048576 l i.toNat ++ List.replicate (l.length - i.toNat) (0, 0))) (g := fun _ => some (eOut 1048576 l l.length)) (fun k => by
   simp only[f152.L0_4.eq_2,ge_dec,bif_r,Int.toNat_natCast,Nat.sub_self,List.replicate_zero,List.append_nil]) (fun k i hi ih=>by
   have e:idx l (i:Int)=some (tyn l i):=idx_getD _ hi
   have ht':=ht i hi
   have hff:=ht'.fields
   have hE:=eOut_EX (C:=1048576) (by omega) (by omega) ht i (by omega)
   have hol:=eOut_len 1048576 l i
   have hnl:(eOut 1048576 l i++List.replicate (l.length-i) ((0:Int),(0:Int))).length=l.length:=by simp[hol];omega
   have hset:∀ v:Ex,(eOut 1048576 l i++List.replicate (l.length-i) (0,0)).set i v=(eOut 1048576 l i++[v])++List.replicate (l.length-(i+1)) (0,0):=fun v=>set_ex hol hi
   obtain⟨w,hw⟩:=get_of_lt (l:=eOut 1048576 l i++List.replicate (l.length-i) ((0:Int),(0:Int))) (i:=i) (by omega)
   simp only[Int.toNat_natCast] at ih ⊢
   rw[eOut] at ih
   have fin:∀ v:Ex,v=estep 1048576 (eOut 1048576 l i) (tyn l i)→f152.L0_4 N k (l,(l.length:Int),((i+1:Nat):Int),(eOut 1048576 l i++[v])++List.replicate (l.length-(i+1)) (0,0))=some (eOut 1048576 l l.length):=by
    rintro _ rfl;exact ih
   have hin:inR (i:Int) (eOut 1048576 l i++List.replicate (l.length-i) ((0:Int),(0:Int))).length=true:=by rw[hnl];exact inR_lt hi
   simp only[f152.L0_4.eq_2,lt_dec hi,bif_l,e,Option.bind_some,Int.toNat_natCast,hin,hw,hset,chk_true,wi64_succ (show i<9223372036854775807 by omega),bif_tt]
   unfold estep at fin
   rcases kinds_cases ht' with h|h|h|h|h|h|h
   ·rw[h];exact fin _ (by rw[if_pos h])
   ·rw[h];exact fin _ (by rw[h];rfl)
   ·rw[h];exact fin _ (by rw[h];rfl)
   ·rw[h];exact fin _ (by rw[h];rfl)
   ·rw [h] at fin ⊢
    have:=lay_ok (N:=N) (b:=List.replicate (l.length-i) (0,0)) hN hE (fs:=(tyn l i).2.2.2) (by omega) (fun f hf=>by rw[hol];exact hff.2.2 f hf)
    have hq:(Option.bind (F153 N (eOut 1048576 l i++List.replicate (l.length-i) (0,0),(tyn l i).2.2.2)) fun y12=>
      f152.L0_4 N k (l,(l.length:Int),((i+1:Nat):Int),(eOut 1048576 l i++[y12.2])++List.replicate (l.length-(i+1)) (0,0)))=some (eOut 1048576 l l.length):=by
     rw[this,Option.bind_some];exact fin _ rfl
    exact hq
   ·have hp := ht'.arr h
    have ha:=hE.get (by omega) (tyn l i).2.1
    have hm:=mul_bd16 hp.2 ha.2 (by omega)
    have hx:(eOut 1048576 l i++List.replicate (l.length-i) ((0:Int),(0:Int)))[(tyn l i).2.1.toNat]?=some (exn (eOut 1048576 l i) (tyn l i).2.1):=by
     have:=(idx_some (idx_exn (x:=eOut 1048576 l i++List.replicate (l.length-i) ((0:Int),(0:Int))) (i:=(tyn l i).2.1) (by rw[hnl];omega))).2
     rw[this,exn_app (by rw[hol];exact hp.1)]
    have hq:(chk (inR (tyn l i).2.1 (eOut 1048576 l i++List.replicate (l.length-i) ((0:Int),(0:Int))).length) (Option.bind ((eOut 1048576 l i++List.replicate (l.length-i) ((0:Int),(0:Int)))[(Int.toNat (tyn l i).2.1)]?) fun x10=>
      f152.L0_4 N k (l,(l.length:Int),((i+1:Nat):Int),(eOut 1048576 l i++[((min (1048576:Int) (wi64 ((tyn l i).2.2.1*x10.1))),x10.2)])++List.replicate (l.length-(i+1)) (0,0))))=some (eOut 1048576 l l.length):=by
     rw[inR_int (by rw[hnl];omega),chk_true,hx,Option.bind_some]
     refine fin _ ?_
     rw[wi64_in (by omega),h];rfl
    rw[h];exact hq
   ·rw[h];exact fin _ (by rw[h];rfl)) N 0 (by omega) (by omega)
 have:f152.L0_4 N N (l,(l.length:Int),(0:Int),List.replicate l.length (0,0))=some (eOut 1048576 l l.length):=by simpa[eOut] using key
 rw[this];rfl
theorem sizes_ok {N:Nat} {l:List GType} (hN:1100<N) (hl:l.length≤100) (ht:AllT l):F98 N l=some ((eOut 1000000 l l.length).map (·.1),(eOut 1000000 l l.length).map (·.2)):=by
 rw[F98.eq_1]
 have key := loop_up (n := l.length) (Lf := fun k i => f98.L0_4 N k (l, (eOut 1000000 l i.toNat).map (·.1), (eOut 1000000 l i.toNat).map (·.2), i)) (g := fun _ => some ((eOut 1000000 l l.length).map (·.1), (eOut 1000000 l l.length).map (·.2))) (fun k => by
   simp only[f98.L0_4.eq_2,ge_dec,bif_r,Int.toNat_natCast]) (fun k i hi ih=>by
   have e:idx l (i:Int)=some (tyn l i):=idx_getD _ hi
   have ht':=ht i hi
   have hff:=ht'.fields
   have hE:=eOut_EX (C:=1000000) (by omega) (by omega) ht i (by omega)
   have hol:=eOut_len 1000000 l i
   simp only[Int.toNat_natCast] at ih ⊢
   rw[eOut,List.map_append,List.map_append,List.map_cons,List.map_cons,List.map_nil,List.map_nil] at ih
   have fin:∀ a b:Int,(a,b)=estep 1000000 (eOut 1000000 l i) (tyn l i)→f98.L0_4 N k (l,(eOut 1000000 l i).map (·.1)++[a],(eOut 1000000 l i).map (·.2)++[b],((i+1:Nat):Int))=some ((eOut 1000000 l l.length).map (·.1),(eOut 1000000 l l.length).map (·.2)):=by
    intro a b h
    rw[←h] at ih
    exact ih
   have r1:room (((eOut 1000000 l i).map (·.1)).length+1) 8=true:=room_small (by rw[List.length_map];omega) (by omega)
   have r2:room (((eOut 1000000 l i).map (·.2)).length+1) 8=true:=room_small (by rw[List.length_map];omega) (by omega)
   simp only[f98.L0_4.eq_2,lt_dec hi,bif_l,e,Option.bind_some,r1,r2,chk_true,wi64_succ (show i<9223372036854775807 by omega)]
   unfold estep at fin
   rcases kinds_cases ht' with h|h|h|h|h|h|h
   ·rw[h];exact fin _ _ (by rw[if_pos h])
   ·rw[h];exact fin _ _ (by rw[h];rfl)
   ·rw[h];exact fin _ _ (by rw[h];rfl)
   ·rw[h];exact fin _ _ (by rw[h];rfl)
   ·have := tog_ok (N := N) hN hE (fs := (tyn l i).2.2.2) (by omega) (fun f hf => by rw [hol]; exact hff.2.2 f hf)
    have hq:(Option.bind (F174 N ((eOut 1000000 l i).map (·.1),(eOut 1000000 l i).map (·.2),(tyn l i).2.2.2)) fun y11=>
      f98.L0_4 N k (l,(eOut 1000000 l i).map (·.1)++[y11.2.1],(eOut 1000000 l i).map (·.2)++[y11.2.2],((i+1:Nat):Int)))=some ((eOut 1000000 l l.length).map (·.1),(eOut 1000000 l l.length).map (·.2)):=by
     rw[this,Option.bind_some];exact fin _ _ (by rw[h];rfl)
    rw[h];exact hq
   ·have hp := ht'.arr h
    have ha:=hE.get (by omega) (tyn l i).2.1
    have hm:=mul_bd16 hp.2 ha.2 (by omega)
    have hi2:idx (eOut 1000000 l i) (tyn l i).2.1=some (exn (eOut 1000000 l i) (tyn l i).2.1):=idx_exn (by rw[hol];exact hp.1)
    have hq:(Option.bind (idx ((eOut 1000000 l i).map (·.1)) (tyn l i).2.1) fun x7=>(Option.bind (idx ((eOut 1000000 l i).map (·.2)) (tyn l i).2.1) fun x9=>
      f98.L0_4 N k (l,(eOut 1000000 l i).map (·.1)++[(min (1000000:Int) (wi64 ((tyn l i).2.2.1*x7)))],(eOut 1000000 l i).map (·.2)++[x9],((i+1:Nat):Int))))=some ((eOut 1000000 l l.length).map (·.1),(eOut 1000000 l l.length).map (·.2)):=by
     rw[idx_map (g:=fun e:Ex=>e.1) hi2,Option.bind_some,idx_map (g:=fun e:Ex=>e.2) hi2,Option.bind_some,wi64_in (by omega)]
     exact fin _ _ (by rw[h];rfl)
    rw[h];exact hq
   ·rw[h];exact fin _ _ (by rw[h];rfl)) N 0 (by omega) (by omega)
 have:f98.L0_4 N N (l,[],[],(0:Int))=some ((eOut 1000000 l l.length).map (·.1),(eOut 1000000 l l.length).map (·.2)):=by simpa[eOut] using key
 grind
noncomputable def Rel (a b:Ex):Prop:=(a.1=b.1∨(256<a.1∧256<b.1))∧a.2=b.2
theorem layF_rel {x y:List Ex} (hx:EX 1048576 x) (hy:EX 1000000 y) (h:∀ i:Int,Rel (exn x i) (exn y i)):∀ (fs:List Field) (s s' a:Int),(s=s'∨(256<s∧256<s'))→0≤s→0≤s'→s≤1048576→s'≤1000000→AL a→
  ((layF 1048576 x s a fs).2.1=(layF 1000000 y s' a fs).2.1∨(256<(layF 1048576 x s a fs).2.1∧256<(layF 1000000 y s' a fs).2.1))∧(layF 1048576 x s a fs).2.2=(layF 1000000 y s' a fs).2.2
 |[],s,s',a,hs,_,_,_,_,_=>⟨hs,rfl⟩
 |f :: r,s,s',a,hs,h0,h0',hc,hc',ha=>by
  obtain⟨e1,e2,e3⟩:=hx.get (by omega) f.2
  obtain⟨g1,g2,g3⟩:=hy.get (by omega) f.2
  obtain⟨r1,r2⟩:=h f.2
  simp[layF]
  rw[←r2] at g1 ⊢
  have u1:=up_bd e1 h0
  have u2:=up_bd e1 h0'
  refine layF_rel hx hy h r _ _ _ ?_ (by omega) (by omega) (by omega) (by omega) (ha.max e1)<;>grind
theorem estep_rel {x y:List Ex} (hx:EX 1048576 x) (hy:EX 1000000 y) (h:∀ i:Int,Rel (exn x i) (exn y i)) {n i:Nat} {t:GType} (ht:TypeOK n i t):Rel (estep 1048576 x t) (estep 1000000 y t):=by
 unfold estep
 split
 ·exact⟨.inl rfl,rfl⟩
 ·split
  ·exact⟨.inl rfl,rfl⟩
  ·split
   ·exact⟨.inl rfl,rfl⟩
   ·split
    ·rename_i h6
     obtain⟨r1,r2⟩:=h t.2.1
     have e:=hx.get (by omega) t.2.1
     have g:=hy.get (by omega) t.2.1
     have hl:=(ht.arr h6).2
     have k1:(exn x t.2.1).1≤t.2.2.1*(exn x t.2.1).1:=by
      have:=Int.mul_le_mul_of_nonneg_right hl.1 e.2.1<;>omega
     have k2:(exn y t.2.1).1≤t.2.2.1*(exn y t.2.1).1:=by
      have:=Int.mul_le_mul_of_nonneg_right hl.1 g.2.1<;>omega
     refine⟨?_,r2⟩<;>grind
    ·split
     ·obtain ⟨q1, q2⟩ := layF_rel hx hy h t.2.2.2 0 0 1 (.inl rfl) (by omega) (by omega) (by omega) (by omega) (.inl rfl)
      obtain⟨b1,b2,_⟩:=layF_bd (C:=1048576) (by omega) hx t.2.2.2 0 1 (by omega) (by omega) (.inl rfl)
      obtain⟨c1,c2,_⟩:=layF_bd (C:=1000000) (by omega) hy t.2.2.2 0 1 (by omega) (by omega) (.inl rfl)
      refine⟨?_,q2⟩
      rcases q1 with q1|q1
      ·grind
      ·have := up_bd b2 b1.1
       have:=up_bd c2 c1.1<;>grind
     ·exact⟨.inl rfl,rfl⟩
theorem exn_snoc {a:List Ex} {v:Ex} (i:Int):exn (a++[v]) i=if i.toNat<a.length then exn a i else if i.toNat=a.length then v else (0,1):=by
 unfold exn<;>grind
theorem eOut_rel {l:List GType} (ht:AllT l):∀ i,i≤l.length→∀ j:Int,Rel (exn (eOut 1048576 l i) j) (exn (eOut 1000000 l i) j)
 |0,_,j=>⟨.inl rfl,rfl⟩
 | i + 1, hi, j => by
  rw[eOut,eOut,exn_snoc,exn_snoc,eOut_len,eOut_len]
  split
  ·exact eOut_rel ht i (by omega) j
  ·split
   ·exact estep_rel (eOut_EX (by omega) (by omega) ht i (by omega)) (eOut_EX (by omega) (by omega) ht i (by omega)) (eOut_rel ht i (by omega)) (ht i (by omega))
   ·exact⟨.inl rfl,rfl⟩
noncomputable def exs (l:List GType):List Ex:=eOut 1048576 l l.length
noncomputable def SizesOK (l:List GType):Prop:=∀ i:Nat,i<l.length→(exn (exs l) i).1≤256
theorem exs_len (l:List GType):(exs l).length=l.length:=eOut_len _ _ _
theorem size_ok {N:Nat} {l:List GType} (hN:1300<N) (hl:tyFit l) (ht:TableOK l) {i:Int} (hi:0≤i∧i<l.length) :
  F89 N (l,i)=some (if (exn (exs l) i).1≤256 then ((exn (exs l) i).1,(exn (exs l) i).2,0) else (0,0,16)):=by
 have e:idx (exs l) i=some (exn (exs l) i):=idx_exn (by rw[exs_len];exact hi)
 rw[F89.eq_1,F161.eq_1,checkK_ok hN hl,if_pos ht,Option.bind_some,ne00,bif_r,decide_eq_false (show ¬i<0 by omega),bif_r,Option.bind_some,decide_eq_false (show ¬i≥(l.length:Int) by omega),bif_r,extents_ok (by omega) hl.1 ht.2.1,Option.bind_some,show eOut 1048576 l l.length=exs l from rfl,e,Option.bind_some]<;>grind
end Go.Proofs.YtjejefeomeddhaaGreat
