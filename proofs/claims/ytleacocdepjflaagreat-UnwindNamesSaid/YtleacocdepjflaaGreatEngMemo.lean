/- A part of the proof: EngMono, EngQd, EngMemo. -/
import Derived.Test.YtleacocdepjflaaGreatEngA
import Derived.Test.YtleacocdepjflaaGreatEngQb
namespace Go.Eng
open Go
def CallLe (a b:Call):Prop:=∀ f x m t n r,a f x m t n=some r→b f x m t n=some r
variable {call call':Call} {sh:Nat→Bool}
theorem doBox_mono (hc:CallLe call call') {s:St} {f lb sb vb:Nat} {args:List AV} {r:Res} (h:doBox call s f lb sb vb args=some r):doBox call' s f lb sb vb args=some r:=by
 unfold doBox at h ⊢
 split at h
 ·cases h
 split at h
 ·split at h
  ·cases h
  ·rename_i he
   rw[hc _ _ _ _ _ _ he]
   exact h
 ·cases h
theorem doCall_mono (hc:CallLe call call') {b:Bool} {row:Nat} {s:St} {lv sl nvi f:Nat} {args:List AV} {r:Res} (h:doCall call b row s lv sl nvi f args=some r):doCall call' b row s lv sl nvi f args=some r:=by
 unfold doCall at h ⊢
 cases b with
 | false =>
  simp only at h ⊢
  cases hba:boxArgs args with
  |some x=>
   obtain⟨lb,sb,vb,rest⟩:=x
   rw[hba] at h
   exact doBox_mono hc h
  |none=>
  rw[hba] at h
  simp only at h ⊢
  split at h
  ·cases h
  ·rename_i as ks hl
   split at h
   ·cases h
   ·rename_i r' cm ts n he
    rw[hc _ _ _ _ _ _ he]
    exact h
 | true =>
  simp only at h ⊢
  split at h
  ·cases h
  ·split at h
   ·cases h
   ·rename_i r' cm ts n he
    rw[hc _ _ _ _ _ _ he]
    exact h
theorem doFlat_mono (hc:CallLe call call') {s:St} {f:Nat} {args:List AV} {r:Res} (h:doFlat call s f args=some r):doFlat call' s f args=some r:=by
 unfold doFlat at h ⊢
 split at h
 ·cases h
 ·rename_i as ha
  split at h
  ·cases h
  ·rename_i r' cm ts n he
   rw[hc _ _ _ _ _ _ he]
   exact h
theorem doKeep_mono (hc:CallLe call call') {s:St} {f:Nat} {args:List AV} {r:Res} (h:doKeep call s f args=some r):doKeep call' s f args=some r:=by
 unfold doKeep at h ⊢
 split at h
 ·cases h
 ·split at h
  ·cases h
  ·rename_i r' cm ts n he
   rw[hc _ _ _ _ _ _ he]
   exact h
theorem doGive_mono (hc:CallLe call call') {s:St} {nvi f:Nat} {args:List AV} {r:Res} (h:doGive call s nvi f args=some r):doGive call' s nvi f args=some r:=by
 unfold doGive at h ⊢
 split at h
 ·cases h
 ·split at h
  ·cases h
  ·rename_i r' cm ts n he
   rw[hc _ _ _ _ _ _ he]
   exact h
theorem doLend_mono (hc:CallLe call call') {s:St} {nvi f:Nat} {args:List AV} {r:Res} (h:doLend call s nvi f args=some r):doLend call' s nvi f args=some r:=by
 unfold doLend at h ⊢
 split at h
 ·cases h
 ·split at h
  ·cases h
  ·rename_i r' cm ts n he
   rw[hc _ _ _ _ _ _ he]
   exact h
theorem doHide_mono (hc:CallLe call call') {row:Nat} {kp kr:List (Nat×Nat)} {s:St} {lv sl nvi f:Nat} {args:List AV} {r:Res} (h:doHide call row kp kr s lv sl nvi f args=some r):doHide call' row kp kr s lv sl nvi f args=some r:=by
 unfold doHide at h ⊢
 split at h
 ·cases h
 ·split at h
  ·cases h
  ·rename_i r' cm ts n he
   rw[hc _ _ _ _ _ _ he]
   exact h
theorem run_mono (hc:CallLe call call') {s:St} {row dst nvi:Nat} {o:AOp} {r:Res} (h:o.run call sh s row dst nvi=some r):o.run call' sh s row dst nvi=some r:=by
 cases o with
 | call f args =>
  simp only[AOp.run] at h ⊢
  split at h
  ·exact doHide_mono hc h
  split at h
  ·exact doFlat_mono hc h
  ·split at h
   ·exact doKeep_mono hc h
   ·split at h
    ·exact doGive_mono hc h
    split at h
    ·exact doLend_mono hc h
    ·exact doCall_mono hc h
 |callF f args=>
  simp only[AOp.run] at h ⊢
  split at h
  ·exact doHide_mono hc h
  split at h
  ·exact doCall_mono hc h
  ·exact doFlat_mono hc h
 |callv x args=>
  simp only[AOp.run] at h ⊢
  split at h
  ·exact doCall_mono hc h
  ·cases h
 |_=>exact h
theorem step_mono (hc:CallLe call call') {s:St} {nvi:Nat} {o:AOper} {r:Res} (h:o.step call sh s nvi=some r):o.step call' sh s nvi=some r:=by
 unfold AOper.step at h ⊢
 split at h
 ·cases h
 ·exact run_mono hc h
 ·exact h
theorem runOps_mono (hc:CallLe call call') {nv0:Nat} : ∀ {l:List AOper} {i:Nat} {s r:St},runOps call sh nv0 i l s=some r→runOps call' sh nv0 i l s=some r
 |[],_,_,_,h=>h
 | o :: l, i, s, r, h => by
  unfold runOps at h ⊢
  split at h
  ·cases h
  ·rename_i e he
   rw[step_mono hc he]
   exact runOps_mono hc h
theorem runAny_mono (hc:CallLe call call') {nv0:Nat} : ∀ {l:List AOper} {i:Nat} {p:List (Nat×Res)} {s r:St},runAny call sh nv0 i l p s=some r→runAny call' sh nv0 i l p s=some r
 |[],_,_,_,_,h=>h
 | o :: l, i, p, s, r, h => by
  unfold runAny at h ⊢
  split at h
  ·cases h
  ·rename_i e he
   rw[step_mono hc he]
   simp only
   split at h
   ·exact runAny_mono hc h
   ·cases h
theorem runRegion_mono (hc:CallLe call call') {l:List AOper} {d:Bool} {s r:St} (h:runRegion call sh l d s=some r):runRegion call' sh l d s=some r:=by
 unfold runRegion at h ⊢
 cases d with
 |false=>exact runOps_mono hc h
 |true=>exact runAny_mono hc h
theorem exec_call_le (hc:CallLe call call'):∀ (n m:Nat) (c:AC) (s:St) (r:AX×St),n≤m→exec call sh n c s=some r→exec call' sh m c s=some r
 |0,_,_,_,_,_,h=>by cases h
 |n+1,0,_,_,_,hn,_=>by omega
 | n + 1, m + 1, c, s, r, hn, h => by
  have ih:=exec_call_le hc n m
  have hn:n≤m:=by omega
  unfold exec at h ⊢
  cases c with
  |skip=>exact h
  |region ops d=>
   simp only at h ⊢
   cases hr:runRegion call sh ops d s with
   |none=>rw[hr] at h;cases h
   |some s'=>rw[hr] at h;rw[runRegion_mono hc hr];exact h
  | seq a b =>
   simp only at h ⊢
   cases ha:exec call sh n a s with
   |none=>rw[ha] at h;cases h
   |some x=>
    rw[ha] at h
    rw[ih a s x hn ha]
    obtain⟨ax,s'⟩:=x
    cases ax with
    |normal=>exact ih b s' r hn h
    |exit id=>exact h
    |ret=>exact h
  |cond c a b=>
   simp only at h ⊢
   split at h
   ·exact ih a s r hn h
   ·exact ih b s r hn h
   ·cases h
  |block id c=>
   simp only at h ⊢
   cases ha:exec call sh n c s with
   |none=>rw[ha] at h;cases h
   |some x=>rw[ha] at h;rw[ih c s x hn ha];exact h
  | loop c =>
   simp only at h ⊢
   cases ha:exec call sh n c s with
   |none=>rw[ha] at h;cases h
   |some x=>
    rw[ha] at h
    rw[ih c s x hn ha]
    obtain⟨ax,s'⟩:=x
    cases ax with
    |normal=>exact ih _ s' r hn h
    |exit id=>exact h
    |ret=>exact h
  |exit id=>exact h
  |ret=>exact h
end Go.Eng
namespace Go.Eng
open Go
set_option linter.unusedVariables false
noncomputable section
abbrev K:=Q→Mm→Tr Unit→Nat→Ans
abbrev Op1:=Call→(Nat→Bool)→Nat→K→K
def forceN (n:Nat) (k:Nat→Ans):Ans:=Nat.rec (motive:=fun _=>Ans) (k 0) (fun m _=>k m) (Nat.succ n)
theorem forceN_eq (n:Nat) (k:Nat→Ans):forceN n k=k n:=rfl
def fzA (k:Int→Ans) (n:Nat):Ans:=forceN n fun r=>k (Int.ofNat r)
def fzB (k:Int→Ans) (n:Nat):Ans:=forceN n fun r=>k (Int.negSucc r)
def forceZ (z:Int) (k:Int→Ans):Ans:=Int.rec (motive:=fun _=>Ans) (fzA k) (fzB k) z
theorem forceZ_eq (z:Int) (k:Int→Ans):forceZ z k=k z:=by cases z<;>rfl
def kc (k:IntKind):Nat:=IntKind.rec (motive:=fun _=>Nat) 0 1 2 3 4 5 6 7 k
def kEq (a b:IntKind):Bool:=Nat.beq (kc a) (kc b)
theorem kEq_eq (a b:IntKind):kEq a b=decide (a=b):=by cases a<;>cases b<;>rfl
def maxQ (k:IntKind):Nat:=IntKind.rec (motive:=fun _=>Nat) 127 32767 2147483647 9223372036854775807 255 65535 4294967295 18446744073709551615 k
theorem wrap_small {k:IntKind} {n:Nat} (h:n≤maxQ k):k.wrap (Int.ofNat n)=Int.ofNat n:=by
 unfold IntKind.wrap
 cases k<;>simp[maxQ,IntKind.bits,IntKind.signed] at h ⊢<;>omega
def wrA (k:IntKind) (c:Int→Ans) (n:Nat):Ans:=Bool.rec (motive:=fun _=>Ans) (forceZ (k.wrap (Int.ofNat n)) c) (c (Int.ofNat n)) (Nat.ble n (maxQ k))
def wrB (k:IntKind) (c:Int→Ans) (n:Nat):Ans:=forceZ (k.wrap (Int.negSucc n)) c
def wrapQ (k:IntKind) (z:Int) (c:Int→Ans):Ans:=Int.rec (motive:=fun _=>Ans) (wrA k c) (wrB k c) z
theorem wrapQ_eq (k:IntKind) (z:Int) (c:Int→Ans):wrapQ k z c=c (k.wrap z):=by
 cases z with
 |ofNat n=>
  show wrA k c n=_
  unfold wrA
  cases h:Nat.ble n (maxQ k) with
  |true=>show c (Int.ofNat n)=_;rw[wrap_small (Nat.le_of_ble_eq_true h)]
  |false=>exact forceZ_eq _ _
 |negSucc n=>exact forceZ_eq _ _
def adA (c:Int→Ans) (m n:Nat):Ans:=forceN (Nat.add m n) fun r=>c (Int.ofNat r)
def adB (c:Int→Ans) (a:Int) (n:Nat):Ans:=forceZ (a+Int.negSucc n) c
def adC (c:Int→Ans) (b:Int) (m:Nat):Ans:=Int.rec (motive:=fun _=>Ans) (adA c m) (adB c (Int.ofNat m)) b
def adD (c:Int→Ans) (b:Int) (m:Nat):Ans:=forceZ (Int.negSucc m+b) c
def addZ (a b:Int) (c:Int→Ans):Ans:=Int.rec (motive:=fun _=>Ans) (adC c b) (adD c b) a
theorem addZ_eq (a b:Int) (c:Int→Ans):addZ a b c=c (a+b):=by
 cases a with
 |ofNat m=>cases b with
  |ofNat n=>rfl
  |negSucc n=>exact forceZ_eq _ _
 |negSucc m=>exact forceZ_eq _ _
def suA (c:Int→Ans) (m n:Nat):Ans:=Bool.rec (motive:=fun _=>Ans) (forceZ (Int.ofNat m-Int.ofNat n) c) (forceN (Nat.sub m n) fun r=>c (Int.ofNat r)) (Nat.ble n m)
def suB (c:Int→Ans) (a:Int) (n:Nat):Ans:=forceZ (a-Int.negSucc n) c
def suC (c:Int→Ans) (b:Int) (m:Nat):Ans:=Int.rec (motive:=fun _=>Ans) (suA c m) (suB c (Int.ofNat m)) b
def suD (c:Int→Ans) (b:Int) (m:Nat):Ans:=forceZ (Int.negSucc m-b) c
def subZ (a b:Int) (c:Int→Ans):Ans:=Int.rec (motive:=fun _=>Ans) (suC c b) (suD c b) a
theorem subZ_eq (a b:Int) (c:Int→Ans):subZ a b c=c (a-b):=by
 cases a with
 | ofNat m => cases b with
  | ofNat n =>
   show suA c m n=_
   unfold suA
   cases h:Nat.ble n m with
   |true=>
    show c (Int.ofNat (m-n))=_
    congr 1
    have:=Nat.le_of_ble_eq_true h
    simp only[Int.ofNat_eq_natCast]
    omega
   |false=>exact forceZ_eq _ _
  |negSucc n=>exact forceZ_eq (Int.ofNat m-Int.negSucc n) c
 |negSucc m=>exact forceZ_eq (Int.negSucc m-b) c
def tF (_:Nat):Bool:=false
def tT (_:Nat):Bool:=true
def ltA (m n:Nat):Bool:=Nat.ble (Nat.succ m) n
def ltC (b:Int) (m:Nat):Bool:=Int.rec (motive:=fun _=>Bool) (ltA m) tF b
def ltE (m n:Nat):Bool:=Nat.ble (Nat.succ n) m
def ltD (b:Int) (m:Nat):Bool:=Int.rec (motive:=fun _=>Bool) tT (ltE m) b
def ltZ (a b:Int):Bool:=Int.rec (motive:=fun _=>Bool) (ltC b) (ltD b) a
theorem ltZ_eq (a b:Int):ltZ a b=decide (a<b):=by
 cases a with
 | ofNat m => cases b with
  |ofNat n=>
   show Nat.ble (m+1) n=_
   rw[Bool.eq_iff_iff];simp[Nat.ble_eq];omega
  |negSucc n=>
   show false=_
   symm
   simp only[decide_eq_false_iff_not,Int.ofNat_eq_natCast]
   omega
 | negSucc m => cases b with
  |ofNat n=>
   show true=_
   symm
   simp only[decide_eq_true_eq,Int.ofNat_eq_natCast]
   omega
  |negSucc n=>
   show Nat.ble (n+1) m=_
   rw[Bool.eq_iff_iff];simp[Nat.ble_eq];omega
def eqZC (b:Int) (m:Nat):Bool:=Int.rec (motive:=fun _=>Bool) (Nat.beq m) tF b
def eqZD (b:Int) (m:Nat):Bool:=Int.rec (motive:=fun _=>Bool) tF (Nat.beq m) b
def eqZ (a b:Int):Bool:=Int.rec (motive:=fun _=>Bool) (eqZC b) (eqZD b) a
theorem eqZ_eq (a b:Int):eqZ a b=(a==b):=by
 cases a with
 | ofNat m => cases b with
  |ofNat n=>
   show Nat.beq m n=_
   rw[Bool.eq_iff_iff];simp[Nat.beq_eq];omega
  |negSucc n=>rfl
 | negSucc m => cases b with
  |ofNat n=>rfl
  |negSucc n=>
   show Nat.beq m n=_
   rw[Bool.eq_iff_iff];simp[Nat.beq_eq]
def boolQ (b:Bool) (c:AV→Ans):Ans:=Bool.rec (motive:=fun _=>Ans) (c (.d (.sc (.bool false)))) (c (.d (.sc (.bool true)))) b
theorem boolQ_eq (b:Bool) (c:AV→Ans):boolQ b c=c (scA (.bool b)):=by cases b<;>rfl
def outV (c:AV→Ans) (r:Option Value):Ans:=match r with
 |some (.int k z)=>forceZ z fun z'=>c (.d (.sc (.int k z')))
 |some (.bool b)=>boolQ b c
 |some v=>c (scA v)
 |none=>none
theorem outV_eq (c:AV→Ans) (r:Option Value):outV c r=optK (fun e=>none) none∨∃ v,r=some v∧outV c r=c (scA v):=by
 cases r with
 |none=>exact .inl rfl
 |some v=>
  refine .inr ⟨v,rfl,?_⟩
  cases v<;>first|rfl|exact boolQ_eq _ _|exact forceZ_eq _ _
abbrev BinF:=IntKind→Int→IntKind→Int→(AV→Ans)→Ans
def bGen (op:BinOp):BinF:=fun ka a kb b c=>outV c (binI op ka a kb b)
def intQ (ka:IntKind) (c:AV→Ans) (z:Int):Ans:=c (.d (.sc (.int ka z)))
def bAdd:BinF:=fun ka a kb b c=>Bool.rec (motive:=fun _=>Ans) none (addZ a b fun z=>wrapQ ka z (intQ ka c)) (kEq ka kb)
def bSub:BinF:=fun ka a kb b c=>Bool.rec (motive:=fun _=>Ans) none (subZ a b fun z=>wrapQ ka z (intQ ka c)) (kEq ka kb)
def bEql:BinF:=fun ka a kb b c=>Bool.rec (motive:=fun _=>Ans) none (boolQ (eqZ a b) c) (kEq ka kb)
def bNeq:BinF:=fun ka a kb b c=>Bool.rec (motive:=fun _=>Ans) none (boolQ (not (eqZ a b)) c) (kEq ka kb)
def bLss:BinF:=fun ka a kb b c=>Bool.rec (motive:=fun _=>Ans) none (boolQ (ltZ a b) c) (kEq ka kb)
def bGeq:BinF:=fun ka a kb b c=>Bool.rec (motive:=fun _=>Ans) none (boolQ (not (ltZ a b)) c) (kEq ka kb)
def bGtr:BinF:=fun ka a kb b c=>Bool.rec (motive:=fun _=>Ans) none (boolQ (ltZ b a) c) (kEq ka kb)
def bLeq:BinF:=fun ka a kb b c=>Bool.rec (motive:=fun _=>Ans) none (boolQ (not (ltZ b a)) c) (kEq ka kb)
def binF:BinOp→BinF
 |.add=>bAdd
 |.sub=>bSub
 |.eql=>bEql
 |.neq=>bNeq
 |.lss=>bLss
 |.leq=>bLeq
 |.gtr=>bGtr
 |.geq=>bGeq
 |op=>bGen op
theorem binF_ok {op:BinOp} {ka kb:IntKind} {a b:Int} {c:AV→Ans} {z:AV×List (Tr Ent)×Tr Unit×Nat} (h:binF op ka a kb b c=some z):∃ v,binI op ka a kb b=some v∧c (scA v)=some z:=by
 have gen:bGen op ka a kb b c=some z→∃ v,binI op ka a kb b=some v∧c (scA v)=some z:=by
  intro h
  unfold bGen at h
  rcases outV_eq c (binI op ka a kb b) with h1|⟨v,h1,h2⟩
  ·rw[h1] at h;cases h
  ·exact⟨v,h1,by rw[←h2];exact h⟩
 have guard:∀ {x:Ans},Bool.rec (motive:=fun _=>Ans) none x (kEq ka kb)=some z→ka=kb∧x=some z:=by
  intro x hx
  cases hk:kEq ka kb with
  |false=>rw[hk] at hx;cases hx
  |true=>rw[hk] at hx;rw[kEq_eq] at hk;exact⟨of_decide_eq_true hk,hx⟩
 cases op with
 |add=>
  obtain⟨h1,h2⟩:=guard h
  rw[addZ_eq,wrapQ_eq] at h2
  exact⟨.int ka (ka.wrap (a+b)),by simp[binI,h1],h2⟩
 |sub=>
  obtain⟨h1,h2⟩:=guard h
  rw[subZ_eq,wrapQ_eq] at h2
  exact⟨.int ka (ka.wrap (a-b)),by simp[binI,h1],h2⟩
 |eql=>
  obtain⟨h1,h2⟩:=guard h
  rw[boolQ_eq,eqZ_eq] at h2
  exact⟨.bool (a==b),by simp[binI,h1],h2⟩
 |neq=>
  obtain⟨h1,h2⟩:=guard h
  rw[boolQ_eq,eqZ_eq] at h2
  exact⟨.bool (a != b),by simp[binI,h1],h2⟩
 |lss=>
  obtain⟨h1,h2⟩:=guard h
  rw[boolQ_eq,ltZ_eq] at h2
  exact⟨.bool (a<b),by simp[binI,h1],h2⟩
 |leq=>
  obtain⟨h1,h2⟩:=guard h
  rw[boolQ_eq,ltZ_eq] at h2
  refine⟨.bool (a≤b),by simp[binI,h1],?_⟩
  rw[←h2]
  congr 3
  rw[Bool.eq_iff_iff];simp
 |gtr=>
  obtain⟨h1,h2⟩:=guard h
  rw[boolQ_eq,ltZ_eq] at h2
  exact⟨.bool (a>b),by simp[binI,h1],h2⟩
 |geq=>
  obtain⟨h1,h2⟩:=guard h
  rw[boolQ_eq,ltZ_eq] at h2
  refine⟨.bool (a≥b),by simp[binI,h1],?_⟩
  rw[←h2]
  congr 3
  rw[Bool.eq_iff_iff];simp
 |_=>exact gen h
def asI (v:AV) (f:IntKind→Int→Ans) (o:Ans):Ans:=match v with
 |.d (.sc (.int k n))=>f k n
 |_=>o
def binQ (f:BinF) (op:BinOp) (a b:AV) (c:AV→Ans):Ans:=asI a (fun ka x=>asI b (fun kb y=>f ka x kb y c) none) (outV c (binA op a b))
theorem binQ_ok {op:BinOp} {a b:AV} {c:AV→Ans} {z:AV×List (Tr Ent)×Tr Unit×Nat} (h:binQ (binF op) op a b c=some z):∃ v,binA op a b=some v∧c (scA v)=some z:=by
 have gen:outV c (binA op a b)=some z→∃ v,binA op a b=some v∧c (scA v)=some z:=by
  intro h
  rcases outV_eq c (binA op a b) with h1|⟨v,h1,h2⟩
  ·rw[h1] at h;cases h
  ·exact⟨v,h1,by rw[←h2];exact h⟩
 unfold binQ asI at h
 split at h
 ·split at h
  ·exact binF_ok h
  ·cases h
 ·exact gen h
def trN {α : Type} (x:Option α) (n:Nat) (ih:Tr α→Nat→(Tr α→Ans)→Ans) (k:Tr α→Ans) (v:Option α) (l r:Tr α):Ans:=
 Bool.rec (motive:=fun _=>Ans) (Bool.rec (motive:=fun _=>Ans) (ih r (Nat.sub (Nat.div n 2) 1) fun r'=>k (.nd v l r')) (ih l (Nat.div n 2) fun l'=>k (.nd v l' r)) (Nat.beq (Nat.mod n 2) 1)) (k (.nd x l r)) (Nat.beq n 0)
def trZ {α : Type} (t:Tr α) (_:Nat) (k:Tr α→Ans):Ans:=k t
def trS {α : Type} (x:Option α) (_:Nat) (ih:Tr α→Nat→(Tr α→Ans)→Ans) (t:Tr α) (n:Nat) (k:Tr α→Ans):Ans:=Tr.rec (motive:=fun _=>Ans) (trN x n ih k none .lf .lf) (fun v l r _ _=>trN x n ih k v l r) t
def trSetK {α : Type} (x:Option α) (f:Nat):Tr α→Nat→(Tr α→Ans)→Ans:=Nat.rec (motive:=fun _=>Tr α→Nat→(Tr α→Ans)→Ans) trZ (trS x) f
theorem trSetK_eq {α : Type} (x:Option α):∀ (f:Nat) (t:Tr α) (n:Nat) (k:Tr α→Ans),trSetK x f t n k=k (Tr.setF f t n x)
 |0,_,_,_=>rfl
 | f + 1, t, n, k => by
  have node:∀ v l r,trN x n (trSetK x f) k v l r=k (Tr.setF (f+1) (.nd v l r) n x):=by
   intro v l r
   unfold trN
   show (Bool.rec (motive:=fun _=>_) _ _ (Nat.beq n 0))=_
   unfold Tr.setF
   cases Nat.beq n 0 with
   |true=>rfl
   |false=>
    show (Bool.rec (motive:=fun _=>_) _ _ (Nat.beq (n % 2) 1))=_
    simp only
    cases Nat.beq (n % 2) 1 with
    |true=>exact trSetK_eq x f l (n / 2) _
    |false=>exact trSetK_eq x f r (n / 2-1) _
  cases t with
  |nd v l r=>exact node v l r
  |lf=>
   show trN x n (trSetK x f) k none .lf .lf=_
   rw[node]
   rfl
def modZ (_:Nat) (k:Mm→Ans):Ans:=k []
def modS (sl:Nat) (e:Option Ent) (t:Tr Ent) (r:Mm) (ih:Nat→(Mm→Ans)→Ans) (lv:Nat) (k:Mm→Ans):Ans:=
 Bool.rec (motive:=fun _=>Ans) (ih (Nat.sub lv 1) fun r'=>k (t :: r')) (trSetK e (Nat.succ sl) t sl fun t'=>k (t' :: r)) (Nat.beq lv 0)
def memSetK (sl:Nat) (e:Option Ent) (m:Mm):Nat→(Mm→Ans)→Ans:=List.rec (motive:=fun _=>Nat→(Mm→Ans)→Ans) modZ (modS sl e) m
theorem memSetK_eq (sl:Nat) (e:Option Ent):∀ (m:Mm) (lv:Nat) (k:Mm→Ans),memSetK sl e m lv k=k (memSet m lv sl e)
 |[],lv,k=>by
  unfold memSet
  cases lv<;>rfl
 | t :: r, lv, k => by
  show modS sl e t r (memSetK sl e r) lv k=_
  unfold modS memSet
  cases lv with
  |zero=>
   show trSetK e (sl+1) t sl _=_
   rw[trSetK_eq];rfl
  |succ lv=>
   show memSetK sl e r lv _=_
   rw[memSetK_eq sl e r];rfl
def entK (k:Option Ent→Ans) (e:Option Ent):Ans:=match e with
 |some (.row v els)=>forceL els fun l=>k (some (.row v l))
 |some (.box v cs)=>forceL cs fun l=>k (some (.box v l))
 |e=>k e
theorem entK_eq (k:Option Ent→Ans) (e:Option Ent):entK k e=k e:=by
 unfold entK
 split
 ·rw[forceL_eq]
 ·rw[forceL_eq]
 ·rfl
def updZ (m:Mm) (k:Mm→Ans):Ans:=k m
def updS (u:Nat×Nat×Option Ent) (_:List (Nat×Nat×Option Ent)) (ih:Mm→(Mm→Ans)→Ans) (m:Mm) (k:Mm→Ans):Ans:=entK (fun e=>memSetK u.2.1 e m u.1 fun m'=>ih m' k) u.2.2
def updK (l:List (Nat×Nat×Option Ent)):Mm→(Mm→Ans)→Ans:=List.rec (motive:=fun _=>Mm→(Mm→Ans)→Ans) updZ updS l
theorem updK_eq:∀ (l:List (Nat×Nat×Option Ent)) (m:Mm) (k:Mm→Ans),updK l m k=k (applyUpd m l)
 |[],_,_=>rfl
 |(lv,sl,e) :: r,m,k=>by
  show entK (fun e=>memSetK sl e m lv fun m'=>updK r m' k) e=_
  rw[entK_eq,memSetK_eq,updK_eq r];rfl
def tipZ (t:Tr Unit) (k:Tr Unit→Ans):Ans:=k t
def tipS (u:Nat×Bool) (_:List (Nat×Bool)) (ih:Tr Unit→(Tr Unit→Ans)→Ans) (t:Tr Unit) (k:Tr Unit→Ans):Ans:=forceN u.1 fun v=>trSetK (if u.2 then some () else none) (Nat.succ v) t v fun t'=>ih t' k
def tipK (l:List (Nat×Bool)):Tr Unit→(Tr Unit→Ans)→Ans:=List.rec (motive:=fun _=>Tr Unit→(Tr Unit→Ans)→Ans) tipZ tipS l
theorem tipK_eq:∀ (l:List (Nat×Bool)) (t:Tr Unit) (k:Tr Unit→Ans),tipK l t k=k (applyTip t l)
 |[],_,_=>rfl
 |(v,b) :: r,t,k=>by
  show forceN v (fun v=>trSetK (if b then some () else none) (v+1) t v fun t'=>tipK r t' k)=_
  rw[forceN_eq,trSetK_eq,tipK_eq r];rfl
def valK (k:AV→Ans) (v:AV):Ans:=match v with
 |.own els o=>forceL els fun l=>k (.own l o)
 |.agg cs=>forceL cs fun l=>k (.agg l)
 |v=>k v
theorem valK_eq (k:AV→Ans) (v:AV):valK k v=k v:=by
 unfold valK
 split
 ·rw[forceL_eq]
 ·rw[forceL_eq]
 ·rfl
def resE (w:Wr) (k:K) (q:Q) (m:Mm) (t:Tr Unit) (n:Nat) (e:Eff):Ans:=Eff.rec (motive:=fun _=>Ans) (fun val upd tip _=>valK (fun val=>updK upd m fun m'=>tipK tip t fun t'=>w val (fun q'=>k q' m' t' n) q) val) e
def backZ (m:Mm) (k:Mm→Ans):Ans:=k m
def backK (old m:Mm) (kp:List (Nat×Nat)) (k:Mm→Ans):Ans:=List.rec (motive:=fun _=>Ans) (backZ m k) (fun _ _ _=>updK (kp.map fun x=>(x.1,x.2,memGet old x.1 x.2)) (fit old m) k) kp
theorem backK_eq (old m:Mm) (kp:List (Nat×Nat)) (k:Mm→Ans):backK old m kp k=k (back old m kp):=by
 cases kp with
 |nil=>rfl
 |cons x r=>
  show updK ((x :: r).map fun x=>(x.1,x.2,memGet old x.1 x.2)) (fit old m) k=_
  rw[updK_eq];rfl
def resA1 (w:Wr) (k:K) (q:Q) (m0:Mm) (v:AV) (m:Mm) (t:Tr Unit) (n:Nat) (kp kr:List (Nat×Nat)):Ans:=w v (fun q'=>backK m0 m (kp++kr) fun m'=>k q' m' t n) q
def resK (w:Wr) (k:K) (q:Q) (m:Mm) (t:Tr Unit) (n:Nat) (e:Res):Ans:=Res.rec (motive:=fun _=>Ans) (resE w k q m t n) (resA1 w k q m) e
def WOK (w:Wr) (dst:Option Nat):Prop:=∀ q t,Rel q t→∀ v,∃ q',(∀ k,w v k q=k q')∧Rel q' (putS t dst v)
theorem resK_ok {w:Wr} {dst:Option Nat} (hw:WOK w dst) {q:Q} {s:St} (hr:Rel q s.slots) (k:K) (e:Res) :
  ∃ q',Rel q' (s.app dst e).slots∧resK w k q s.mem s.tips s.nv e=k q' (s.app dst e).mem (s.app dst e).tips (s.app dst e).nv:=by
 cases e with
 | eff e =>
  obtain⟨q',h1,h2⟩:=hw q s.slots hr e.val
  refine⟨q',h2,?_⟩
  show resE w k q s.mem s.tips s.nv e=_
  unfold resE
  cases e with
  |mk val upd tip rd=>
   show valK _ val=_
   rw[valK_eq,updK_eq,tipK_eq,h1];rfl
 |all v m t n kp kr=>
  obtain⟨q',h1,h2⟩:=hw q s.slots hr v
  refine⟨q',h2,?_⟩
  show w v (fun q'=>backK s.mem m (kp++kr) fun m'=>k q' m' t n) q=_
  rw[h1,backK_eq];rfl
def wD:Option Nat→Wr
 |some n=>wK n
 |none=>wN
def okD:Option Nat→Bool
 |some n=>Nat.blt n 1024
 |none=>true
theorem wD_ok {dst:Option Nat} (h:okD dst=true):WOK (wD dst) dst:=by
 intro q t hr v
 cases dst with
 |none=>exact⟨q,fun _=>rfl,hr⟩
 |some n=>
  have hn:n<1024:=by simpa[okD,Nat.blt_eq] using h
  exact⟨setQ q n v,fun k=>wK_eq hn v k q,hr.put hn v⟩
def OpOK (x:Op1) (o:AOper):Prop:=∀ (call:Call) (sh:Nat→Bool) (nvi:Nat) (k:K) (q:Q) (s:St) (z:AV×List (Tr Ent)×Tr Unit×Nat),Rel q s.slots→x call sh nvi k q s.mem s.tips s.nv=some z→
 ∃ e q',o.op.run call sh s (rowQ o.row) (dstQ o.row (o.dst.getD 0) nvi) nvi=some e∧Rel q' (s.app o.dst e).slots∧k q' (s.app o.dst e).mem (s.app o.dst e).tips (s.app o.dst e).nv=some z
def compR0 (o:AOper):R1:=fun call sh nvi q m t n k=>compR (rowQ o.row) (dstQ o.row (o.dst.getD 0) nvi) o.op call sh nvi q m t n k
def fr (r:Nat→R1):R1:=fun call sh nvi q m t n k=>r (1048576+nvi) call sh nvi q m t n k
def seqO (r:R1) (w:Wr):Op1:=fun call sh nvi k q m t n=>forceN nvi fun nvi=>r call sh nvi q m t n (resK w k q m t n)
theorem seqO_ok {o:AOper} (h:o.op.opds.all okO=true) (hd:okD o.dst=true):OpOK (seqO (compR0 o) (wD o.dst)) o:=by
 intro call sh nvi k q s z hr hx
 unfold seqO at hx
 rw[forceN_eq] at hx
 unfold compR0 at hx
 rw[compR_eq h hr] at hx
 cases he:o.op.run call sh s (rowQ o.row) (dstQ o.row (o.dst.getD 0) nvi) nvi with
 |none=>rw[he] at hx;cases hx
 |some e=>
  rw[he] at hx
  obtain⟨q',h1,h2⟩:=resK_ok (wD_ok hd) hr k e
  exact⟨e,q',rfl,h1,by rw[←h2];exact hx⟩
theorem pure_op {x:Op1} {o:AOper} (hd:okD o.dst=true) (h:∀ (call:Call) (sh:Nat→Bool) (nvi:Nat) (k:K) (q:Q) (s:St) (z:AV×List (Tr Ent)×Tr Unit×Nat),Rel q s.slots→x call sh nvi k q s.mem s.tips s.nv=some z→
  ∃ v rd,o.op.run call sh s (rowQ o.row) (dstQ o.row (o.dst.getD 0) nvi) nvi=some (.eff { val:=v,upd:=[],tip:=[],rd:=rd })∧wD o.dst v (fun q'=>k q' s.mem s.tips s.nv) q=some z):OpOK x o:=by
 intro call sh nvi k q s z hr hx
 obtain⟨v,rd,h1,h2⟩:=h call sh nvi k q s z hr hx
 obtain⟨q',h3,h4⟩:=wD_ok hd q s.slots hr v
 exact⟨_,q',h1,h4,by rw[←h2,h3];rfl⟩
def qMov (x:Gt) (w:Wr):Op1:=fun call sh nvi k q m t n=>x (fun v=>w v (fun q'=>k q' m t n) q) q
def qBin (f:BinF) (op:BinOp) (x y:Gt) (w:Wr):Op1:=fun call sh nvi k q m t n=>x (fun a=>y (fun b=>binQ f op a b fun v=>w v (fun q'=>k q' m t n) q) q) q
def pickV (a b:Ans) (v:AV):Ans:=match v with
 |.d (.sc (.bool t))=>Bool.rec (motive:=fun _=>Ans) b a t
 |_=>none
def qPick (c x y:Gt) (w:Wr):Op1:=fun call sh nvi k q m t n=>c (pickV (x (fun v=>w v (fun q'=>k q' m t n) q) q) (y (fun v=>w v (fun q'=>k q' m t n) q) q)) q
def fadV (off:Nat) (c:AV→Ans) (v:AV):Ans:=match v with
 |.ptr lv sl ver i o=>forceN (Nat.add o off) fun o'=>c (.ptr lv sl ver i o')
 |.dptr e o=>forceN (Nat.add o off) fun o'=>c (.dptr e o')
 |_=>none
def qFad (off:Nat) (x:Gt) (w:Wr):Op1:=fun call sh nvi k q m t n=>x (fadV off fun v=>w v (fun q'=>k q' m t n) q) q
def getTr {α : Type} (t:Tr α):Nat→Option α:=Tr.rec (motive:=fun _=>Nat→Option α) (fun _=>none) (fun v _ _ il ir n=>Bool.rec (motive:=fun _=>Option α) (Bool.rec (motive:=fun _=>Option α) (ir (Nat.sub (Nat.div n 2) 1)) (il (Nat.div n 2)) (Nat.beq (Nat.mod n 2) 1)) v (Nat.beq n 0)) t
theorem getTr_eq {α : Type} : ∀ (t:Tr α) (n:Nat),getTr t n=t.get? n
 |.lf,_=>rfl
 | .nd v l r, n => by
  unfold Tr.get?
  show (Bool.rec (motive:=fun _=>_) _ _ (Nat.beq n 0))=_
  cases Nat.beq n 0 with
  |true=>rfl
  |false=>
   show (Bool.rec (motive:=fun _=>_) _ _ (Nat.beq (n % 2) 1))=_
   simp only
   cases Nat.beq (n % 2) 1 with
   |true=>exact getTr_eq l (n / 2)
   |false=>exact getTr_eq r (n / 2-1)
def getLv (sl:Nat) (m:Mm):Nat→Option Ent:=List.rec (motive:=fun _=>Nat→Option Ent) (fun _=>none) (fun t _ ih lv=>Bool.rec (motive:=fun _=>Option Ent) (ih (Nat.sub lv 1)) (getTr t sl) (Nat.beq lv 0)) m
theorem getLv_eq (sl:Nat):∀ (m:Mm) (lv:Nat),getLv sl m lv=memGet m lv sl
 |[],lv=>by unfold memGet;simp;rfl
 |t :: r,lv=>by
  cases lv with
  |zero=>show getTr t sl=_;rw[getTr_eq];rfl
  |succ lv=>show getLv sl r lv=_;rw[getLv_eq sl r];rfl
def nthK (c:AV→Ans) (cs:List AV):Nat→Ans:=List.rec (motive:=fun _=>Nat→Ans) (fun _=>none) (fun x _ ih n=>Bool.rec (motive:=fun _=>Ans) (ih (Nat.sub n 1)) (c x) (Nat.beq n 0)) cs
theorem nthK_ok {c:AV→Ans} {z:AV×List (Tr Ent)×Tr Unit×Nat} : ∀ {cs:List AV} {n:Nat},nthK c cs n=some z→∃ x,n+1≤cs.length∧(cs.drop n).take 1=[x]∧c x=some z
 |[],n,h=>by cases h
 | x :: r, n, h => by
  cases n with
  |zero=>exact⟨x,by simp,rfl,h⟩
  |succ n=>
   obtain⟨y,h1,h2,h3⟩:=nthK_ok (cs:=r) (n:=n) h
   exact⟨y,by simpa using h1,by simpa using h2,h3⟩
def genL (m:Mm) (c:AV→Ans) (v:AV):Ans:=Option.rec (motive:=fun _=>Ans) none c ((loadA m 1 v).bind (wrapAgg false))
def ldE (m:Mm) (c:AV→Ans) (lv sl ver i off:Nat) (e:Ent):Ans:=match e with
 |.box v cs=>Bool.rec (motive:=fun _=>Ans) none (nthK c cs off) (Nat.beq v ver&&Nat.beq i 0)
 |_=>genL m c (.ptr lv sl ver i off)
def ldV (m:Mm) (c:AV→Ans) (v:AV):Ans:=match v with
 |.ptr lv sl ver i off=>Option.rec (motive:=fun _=>Ans) none (ldE m c lv sl ver i off) (getLv sl m lv)
 |v=>genL m c v
theorem genL_ok {m:Mm} {c:AV→Ans} {v:AV} {z:AV×List (Tr Ent)×Tr Unit×Nat} (h:genL m c v=some z):∃ x,(loadA m 1 v).bind (wrapAgg false)=some x∧c x=some z:=by
 unfold genL at h
 cases he:(loadA m 1 v).bind (wrapAgg false) with
 |none=>rw[he] at h;cases h
 |some x=>rw[he] at h;exact⟨x,rfl,h⟩
theorem ldV_ok {m:Mm} {c:AV→Ans} {v:AV} {z:AV×List (Tr Ent)×Tr Unit×Nat} (h:ldV m c v=some z):∃ x,(loadA m 1 v).bind (wrapAgg false)=some x∧c x=some z:=by
 unfold ldV at h
 split at h
 ·rename_i lv sl ver i off
  rw[getLv_eq] at h
  cases he:memGet m lv sl with
  |none=>rw[he] at h;cases h
  | some e =>
   rw[he] at h
   have h:ldE m c lv sl ver i off e=some z:=h
   unfold ldE at h
   cases e with
   | box v cs =>
    simp only at h
    cases hb:(Nat.beq v ver&&Nat.beq i 0) with
    |false=>rw[hb] at h;cases h
    |true=>
     rw[hb] at h
     obtain⟨x,h1,h2,h3⟩:=nthK_ok h
     rw[Bool.and_eq_true] at hb
     refine⟨x,?_,h3⟩
     simp only[loadA,he,hb.1,hb.2,h1,if_true,h2]
     rfl
   |_=>exact genL_ok h
 ·exact genL_ok h
def qLd (x:Gt) (w:Wr):Op1:=fun call sh nvi k q m t n=>x (ldV m fun v=>w v (fun q'=>k q' m t n) q) q
def comp1 (o:AOper):Op1:=match o.op with
 |.mov x=>match Nat.beq o.row 0 with
  |true=>qMov (opdK x) (wD o.dst)
  |false=>seqO (compR0 o) (wD o.dst)
 |.bin op x y=>qBin (binF op) op (opdK x) (opdK y) (wD o.dst)
 |.pick c x y=>qPick (opdK c) (opdK x) (opdK y) (wD o.dst)
 |.fieldAddr off x=>qFad off (opdK x) (wD o.dst)
 |.load sz agg x=>match Nat.beq sz 1 && !agg with
  |true=>qLd (opdK x) (wD o.dst)
  |false=>seqO (compR0 o) (wD o.dst)
 |_=>seqO (compR0 o) (wD o.dst)
def okOp (o:AOper):Bool:=o.op.opds.all okO&&(okD o.dst&&match o.gd with
 |some (g,_)=>Nat.blt g 1024
 |none=>true)
theorem comp1_ok {o:AOper} (h:o.op.opds.all okO=true) (hd:okD o.dst=true):OpOK (comp1 o) o:=by
 have gen:=seqO_ok h hd
 unfold comp1
 split
 ·rename_i x hx
  rw[hx] at h
  have h1:okO x=true:=by simpa[AOp.opds] using h
  split
  ·rename_i hrow
   refine pure_op hd fun call sh nvi k q s z hr hz=>⟨x.ev s.slots,[],?_,?_⟩
   ·have h0 : o.row = 0 := Nat.eq_of_beq_eq_true hrow
    rw[hx,h0]
    simp only[AOp.run]
    rfl
   ·unfold qMov at hz
    rw[opdK_eq h1 hr] at hz
    exact hz
  ·exact gen
 ·rename_i op x y hx
  rw[hx] at h
  simp only[AOp.opds,List.all_cons,List.all_nil,Bool.and_true,Bool.and_eq_true] at h
  refine pure_op hd fun call sh nvi k q s z hr hz=>?_
  unfold qBin at hz
  rw[opdK_eq h.1 hr,opdK_eq h.2 hr] at hz
  obtain⟨v,h1,h2⟩:=binQ_ok hz
  refine⟨scA v,[],?_,h2⟩
  rw[hx]
  simp only[AOp.run,h1]
  rfl
 ·rename_i c x y hx
  rw[hx] at h
  simp only[AOp.opds,List.all_cons,List.all_nil,Bool.and_true,Bool.and_eq_true] at h
  refine pure_op hd fun call sh nvi k q s z hr hz=>?_
  unfold qPick at hz
  rw[opdK_eq h.1 hr,opdK_eq h.2.1 hr,opdK_eq h.2.2 hr] at hz
  rw[hx]
  unfold pickV at hz
  split at hz
  ·rename_i t ht
   refine⟨if t then x.ev s.slots else y.ev s.slots,[],?_,?_⟩
   ·simp only[AOp.run,ht,boolOfA];rfl
   ·cases t<;>exact hz
  ·cases hz
 ·rename_i off x hx
  rw[hx] at h
  have h1:okO x=true:=by simpa[AOp.opds] using h
  refine pure_op hd fun call sh nvi k q s z hr hz=>?_
  unfold qFad at hz
  rw[opdK_eq h1 hr] at hz
  rw[hx]
  simp only[AOp.run]
  unfold fadV at hz
  split at hz
  ·rename_i lv sl ver i o' hq
   rw[hq]
   exact⟨_,[],rfl,hz⟩
  ·rename_i e o' hq
   rw[hq]
   exact⟨_,[],rfl,hz⟩
  ·cases hz
 ·rename_i sz agg x hx
  split
  ·rename_i hq
   rw[hx] at h
   have h1:okO x=true:=by simpa[AOp.opds] using h
   rw[Bool.and_eq_true] at hq
   have hsz:=Nat.eq_of_beq_eq_true hq.1
   have hag:agg=false:=by simpa using hq.2
   subst hsz;subst hag
   refine pure_op hd fun call sh nvi k q s z hr hz=>?_
   unfold qLd at hz
   rw[opdK_eq h1 hr] at hz
   obtain⟨v,h2,h3⟩:=ldV_ok hz
   refine⟨v,keysOf (x.ev s.slots),?_,h3⟩
   rw[hx]
   simp only[AOp.run]
   cases hl:loadA s.mem 1 (x.ev s.slots) with
   |none=>rw[hl] at h2;cases h2
   |some cs=>
    rw[hl] at h2
    show (wrapAgg false cs).map _=_
    have h2:wrapAgg false cs=some v:=h2
    rw[h2];rfl
  ·exact gen
 ·exact gen
def gdV (b:Bool) (yes no:Ans) (v:AV):Ans:=match v with
 |.d (.sc (.bool t))=>Bool.rec (motive:=fun _=>Ans) no yes (t==b)
 |.tup _=>no
 |_=>none
def gdO (g:Gt) (b:Bool) (w:Wr) (x:Op1):Op1:=fun call sh nvi k q m t n=>g (gdV b (x call sh nvi k q m t n) (w undefA (fun q'=>k q' m t n) q)) q
def compO (o:AOper):Op1:=match o.gd with
 |none=>comp1 o
 |some (g,b)=>gdO (gK g) b (wD o.dst) (comp1 o)
def StepOK (x:Op1) (o:AOper):Prop:=∀ (call:Call) (sh:Nat→Bool) (nvi:Nat) (k:K) (q:Q) (s:St) (z:AV×List (Tr Ent)×Tr Unit×Nat),Rel q s.slots→x call sh nvi k q s.mem s.tips s.nv=some z→
 ∃ e q',o.step call sh s nvi=some e∧Rel q' (s.app o.dst e).slots∧k q' (s.app o.dst e).mem (s.app o.dst e).tips (s.app o.dst e).nv=some z
theorem compO_ok {o:AOper} (h:okOp o=true):StepOK (compO o) o:=by
 unfold okOp at h
 rw[Bool.and_eq_true,Bool.and_eq_true] at h
 obtain⟨h1,h2,h3⟩:=h
 intro call sh nvi k q s z hr hx
 have base:=comp1_ok h1 h2
 unfold compO at hx
 unfold AOper.step wantedA
 cases hg:o.gd with
 |none=>
  rw[hg] at hx
  exact base call sh nvi k q s z hr hx
 | some p =>
  obtain⟨g,b⟩:=p
  rw[hg] at hx h3
  have hn:g<1024:=by simpa[Nat.blt_eq] using h3
  simp only[gdO] at hx
  rw[gK_eq hn,hr g hn] at hx
  unfold gdV at hx
  have hno:wD o.dst undefA (fun q'=>k q' s.mem s.tips s.nv) q=some z→∃ e q',Eff.pure undefA=some e∧Rel q' (s.app o.dst e).slots∧k q' (s.app o.dst e).mem (s.app o.dst e).tips (s.app o.dst e).nv=some z:=by
   intro hz
   obtain⟨q',h4,h5⟩:=wD_ok h2 q s.slots hr undefA
   exact⟨_,q',rfl,h5,by rw[←hz,h4];rfl⟩
  split at hx
  ·rename_i t ht
   simp only[ht]
   cases hb:(t==b) with
   |true=>rw[hb] at hx;exact base call sh nvi k q s z hr hx
   |false=>rw[hb] at hx;exact hno hx
  ·rename_i vs ht
   simp only[ht]
   exact hno hx
  ·cases hx
def opsZ (call:Call) (sh:Nat→Bool) (_:Nat) (k:K):K:=k
def opsS (o:Op1) (_:List Op1) (ih:Call→(Nat→Bool)→Nat→K→K) (call:Call) (sh:Nat→Bool) (nvi:Nat) (k:K):K:=o call sh nvi (ih call sh (Nat.succ nvi) k)
def opsK (l:List Op1):Call→(Nat→Bool)→Nat→K→K:=List.rec (motive:=fun _=>Call→(Nat→Bool)→Nat→K→K) opsZ opsS l
theorem opsK_ok {call:Call} {sh:Nat→Bool} {k:K} {z:AV×List (Tr Ent)×Tr Unit×Nat} (nv0:Nat):∀ (l:List AOper) (i:Nat) (q:Q) (s:St),l.all okOp=true→Rel q s.slots→opsK (l.map compO) call sh (nv0+i) k q s.mem s.tips s.nv=some z→
  ∃ s' q',runOps call sh nv0 i l s=some s'∧Rel q' s'.slots∧k q' s'.mem s'.tips s'.nv=some z
 |[],i,q,s,_,hr,hx=>⟨s,q,rfl,hr,hx⟩
 |o :: r,i,q,s,h,hr,hx=>by
  simp only[List.all_cons,Bool.and_eq_true] at h
  obtain⟨e,q1,h1,h2,h3⟩:=compO_ok h.1 call sh (nv0+i) (opsK (r.map compO) call sh (Nat.succ (nv0+i)) k) q s z hr hx
  unfold runOps
  rw[h1]
  exact opsK_ok nv0 r (i+1) q1 _ h.2 h2 h3
structure Dr where
 r:R1
 w:Wr
 b:Nat
def gdR (g:Gt) (b:Bool) (r:R1):R1:=fun call sh nvi q m t n k=>g (gdV b (r call sh nvi q m t n k) (k (.eff { val:=undefA,upd:=[],tip:=[],rd:=[] }))) q
def compD1 (o:AOper):R1:=match o.gd with
 |none=>compR0 o
 |some (g,b)=>gdR (gK g) b (compR0 o)
def compD (o:AOper):Dr:=⟨compD1 o,wD o.dst,o.bef⟩
theorem compD1_ok {o:AOper} (h:okOp o=true) {call:Call} {sh:Nat→Bool} {nvi:Nat} {k:Res→Ans} {q:Q} {s:St} {z:AV×List (Tr Ent)×Tr Unit×Nat} (hr:Rel q s.slots) (hx:compD1 o call sh nvi q s.mem s.tips s.nv k=some z) :
  ∃ e,o.step call sh s nvi=some e∧k e=some z:=by
 unfold okOp at h
 rw[Bool.and_eq_true,Bool.and_eq_true] at h
 obtain⟨h1,h2,h3⟩:=h
 have base:compR0 o call sh nvi q s.mem s.tips s.nv k=some z→∃ e,o.op.run call sh s (rowQ o.row) (dstQ o.row (o.dst.getD 0) nvi) nvi=some e∧k e=some z:=by
  intro hx
  unfold compR0 at hx
  rw[compR_eq h1 hr] at hx
  cases he:o.op.run call sh s (rowQ o.row) (dstQ o.row (o.dst.getD 0) nvi) nvi with
  |none=>rw[he] at hx;cases hx
  |some e=>rw[he] at hx;exact⟨e,rfl,hx⟩
 unfold compD1 at hx
 unfold AOper.step wantedA
 cases hg:o.gd with
 |none=>rw[hg] at hx;exact base hx
 | some p =>
  obtain⟨g,b⟩:=p
  rw[hg] at hx h3
  have hn:g<1024:=by simpa[Nat.blt_eq] using h3
  simp only[gdR] at hx
  rw[gK_eq hn,hr g hn] at hx
  unfold gdV at hx
  split at hx
  ·rename_i t ht
   simp only[ht]
   cases hb:(t==b) with
   |true=>rw[hb] at hx;exact base hx
   |false=>rw[hb] at hx;exact⟨_,rfl,hx⟩
  ·rename_i vs ht
   simp only[ht]
   exact⟨_,rfl,hx⟩
  ·cases hx
def drZ (call:Call) (sh:Nat→Bool) (_ _:Nat) (_:List (Nat×Res)) (k:K):K:=k
def drE (o:Dr) (ih:Nat→Nat→List (Nat×Res)→K→K) (nv0 i:Nat) (past:List (Nat×Res)) (k:K) (q:Q) (m:Mm) (t:Tr Unit) (n:Nat) (e:Res):Ans:=
 Bool.rec (motive:=fun _=>Ans) none (resK o.w (ih nv0 (Nat.succ i) ((i,e) :: past) k) q m t n e) (clear o.b e past)
def drS (o:Dr) (_:List Dr) (ih:Call→(Nat→Bool)→Nat→Nat→List (Nat×Res)→K→K) (call:Call) (sh:Nat→Bool) (nv0 i:Nat) (past:List (Nat×Res)) (k:K) (q:Q) (m:Mm) (t:Tr Unit) (n:Nat):Ans:=
 forceN (nv0+i) fun nvi=>o.r call sh nvi q m t n (drE o (ih call sh) nv0 i past k q m t n)
def drK (l:List Dr):Call→(Nat→Bool)→Nat→Nat→List (Nat×Res)→K→K:=List.rec (motive:=fun _=>Call→(Nat→Bool)→Nat→Nat→List (Nat×Res)→K→K) drZ drS l
theorem drK_ok {call:Call} {sh:Nat→Bool} {k:K} {z:AV×List (Tr Ent)×Tr Unit×Nat} (nv0:Nat):∀ (l:List AOper) (i:Nat) (past:List (Nat×Res)) (q:Q) (s:St),l.all okOp=true→Rel q s.slots→drK (l.map compD) call sh nv0 i past k q s.mem s.tips s.nv=some z→
  ∃ s' q',runAny call sh nv0 i l past s=some s'∧Rel q' s'.slots∧k q' s'.mem s'.tips s'.nv=some z
 |[],i,past,q,s,_,hr,hx=>⟨s,q,rfl,hr,hx⟩
 | o :: r, i, past, q, s, h, hr, hx => by
  simp only[List.all_cons,Bool.and_eq_true] at h
  have hx:compD1 o call sh (nv0+i) q s.mem s.tips s.nv (drE (compD o) (drK (r.map compD) call sh) nv0 i past k q s.mem s.tips s.nv)=some z:=hx
  obtain⟨e,h1,h2⟩:=compD1_ok h.1 hr hx
  unfold drE at h2
  unfold runAny
  rw[h1]
  cases hc:clear o.bef e past with
  |false=>
   have h2:Bool.rec (motive:=fun _=>Ans) none _ (clear o.bef e past)=some z:=h2
   rw[hc] at h2;cases h2
  | true =>
   have h2:Bool.rec (motive:=fun _=>Ans) none (resK (wD o.dst) (drK (r.map compD) call sh nv0 (i+1) ((i,e) :: past) k) q s.mem s.tips s.nv e) (clear o.bef e past)=some z:=h2
   rw[hc] at h2
   have hd:okD o.dst=true:=by
    have:=h.1
    unfold okOp at this
    rw[Bool.and_eq_true,Bool.and_eq_true] at this
    exact this.2.1
   obtain⟨q',h3,h4⟩:=resK_ok (wD_ok hd) hr (drK (r.map compD) call sh nv0 (i+1) ((i,e) :: past) k) e
   simp only[hc]
   exact drK_ok nv0 r (i+1) _ q' _ h.2 h3 (by rw[←h4];exact h2)
inductive QC where
 |skip
 |region (ops:List Op1) (n:Nat)
 |draw (ops:List Dr) (n:Nat)
 |seq (a b:QC)
 |cond (c:Gt) (a b:QC)
 |block (id:Nat) (c:QC)
 |loop (c:QC)
 |exit (id:Nat)
 |ret
abbrev XK:=QC→K→(Nat→K)→K→K
def deadK:K:=fun _ _ _ _=>none
def xZ:XK:=fun _ _ _ _=>deadK
def xSkip (ih:XK) (kn:K) (ke:Nat→K) (kr:K):K:=kn
def xRegion (call:Call) (sh:Nat→Bool) (ops:List Op1) (l:Nat) (ih:XK) (kn:K) (ke:Nat→K) (kr:K):K:=fun q m t n=>forceN (Nat.add n l) fun n'=>opsK ops call sh n kn q m t n'
def xDraw (call:Call) (sh:Nat→Bool) (ops:List Dr) (l:Nat) (ih:XK) (kn:K) (ke:Nat→K) (kr:K):K:=fun q m t n=>forceN (Nat.add n l) fun n'=>drK ops call sh n 0 [] kn q m t n'
def xSeq (a b:QC) (_ _:XK→K→(Nat→K)→K→K) (ih:XK) (kn:K) (ke:Nat→K) (kr:K):K:=ih a (ih b kn ke kr) ke kr
def xCond (c:Gt) (a b:QC) (_ _:XK→K→(Nat→K)→K→K) (ih:XK) (kn:K) (ke:Nat→K) (kr:K):K:=fun q m t n=>c (pickV (ih a kn ke kr q m t n) (ih b kn ke kr q m t n)) q
def exK (id:Nat) (kn:K) (ke:Nat→K) (id':Nat):K:=Bool.rec (motive:=fun _=>K) (ke id') kn (Nat.beq id' id)
def xBlock (id:Nat) (c:QC) (_:XK→K→(Nat→K)→K→K) (ih:XK) (kn:K) (ke:Nat→K) (kr:K):K:=ih c kn (exK id kn ke) kr
def xLoop (c:QC) (_:XK→K→(Nat→K)→K→K) (ih:XK) (kn:K) (ke:Nat→K) (kr:K):K:=ih c (ih (.loop c) kn ke kr) ke kr
def xExit (id:Nat) (ih:XK) (kn:K) (ke:Nat→K) (kr:K):K:=ke id
def xRet (ih:XK) (kn:K) (ke:Nat→K) (kr:K):K:=kr
def xS (call:Call) (sh:Nat→Bool) (_:Nat) (ih:XK):XK:=fun c=>QC.rec (motive:=fun _=>XK→K→(Nat→K)→K→K) xSkip (xRegion call sh) (xDraw call sh) xSeq xCond xBlock xLoop xExit xRet c ih
def execQ (call:Call) (sh:Nat→Bool) (n:Nat):XK:=Nat.rec (motive:=fun _=>XK) xZ (xS call sh) n
def compC:AC→QC
 |.skip=>.skip
 |.region ops draw=>match draw with
  |false=>.region (ops.map compO) ops.length
  |true=>.draw (ops.map compD) ops.length
 |.seq a b=>.seq (compC a) (compC b)
 |.cond c a b=>.cond (opdK c) (compC a) (compC b)
 |.block id c=>.block id (compC c)
 |.loop c=>.loop (compC c)
 |.exit id=>.exit id
 |.ret=>.ret
def okAC:AC→Bool
 |.skip=>true
 |.region ops _=>ops.all okOp
 |.seq a b=>okAC a&&okAC b
 |.cond c a b=>okO c&&(okAC a&&okAC b)
 |.block _ c=>okAC c
 |.loop c=>okAC c
 |.exit _=>true
 |.ret=>true
def kOf (kn:K) (ke:Nat→K) (kr:K):AX→K
 |.normal=>kn
 |.exit id=>ke id
 |.ret=>kr
theorem execQ_ok {call:Call} {sh:Nat→Bool} {z:AV×List (Tr Ent)×Tr Unit×Nat} : ∀ (n:Nat) (c:AC) (kn:K) (ke:Nat→K) (kr:K) (q:Q) (s:St),okAC c=true→Rel q s.slots→execQ call sh n (compC c) kn ke kr q s.mem s.tips s.nv=some z→
  ∃ x s' q',exec call sh n c s=some (x,s')∧Rel q' s'.slots∧kOf kn ke kr x q' s'.mem s'.tips s'.nv=some z
 |0,_,_,_,_,_,_,_,_,h=>by cases h
 | n + 1, c, kn, ke, kr, q, s, hok, hr, h => by
  unfold exec
  cases c with
  |skip=>exact⟨.normal,s,q,rfl,hr,h⟩
  | region ops draw =>
   simp only[okAC] at hok
   cases draw with
   |false=>
    have h:opsK (ops.map compO) call sh s.nv kn q s.mem s.tips (s.nv+ops.length)=some z:=h
    obtain⟨s',q',h1,h2,h3⟩:=opsK_ok (k:=kn) s.nv ops 0 q { s with nv:=s.nv+ops.length } hok hr h
    refine⟨.normal,s',q',?_,h2,h3⟩
    simp only[runRegion,h1];rfl
   |true=>
    have h:drK (ops.map compD) call sh s.nv 0 [] kn q s.mem s.tips (s.nv+ops.length)=some z:=h
    obtain⟨s',q',h1,h2,h3⟩:=drK_ok (k:=kn) s.nv ops 0 [] q { s with nv:=s.nv+ops.length } hok hr h
    refine⟨.normal,s',q',?_,h2,h3⟩
    simp only[runRegion,h1];rfl
  |seq a b=>
   simp only[okAC,Bool.and_eq_true] at hok
   have h:execQ call sh n (compC a) (execQ call sh n (compC b) kn ke kr) ke kr q s.mem s.tips s.nv=some z:=h
   obtain⟨x,s1,q1,h1,h2,h3⟩:=execQ_ok n a _ _ _ q s hok.1 hr h
   simp only[h1]
   cases x with
   |normal=>exact execQ_ok n b kn ke kr q1 s1 hok.2 h2 h3
   |exit id=>exact⟨.exit id,s1,q1,rfl,h2,h3⟩
   |ret=>exact⟨.ret,s1,q1,rfl,h2,h3⟩
  | cond c a b =>
   simp only[okAC,Bool.and_eq_true] at hok
   have h:opdK c (pickV (execQ call sh n (compC a) kn ke kr q s.mem s.tips s.nv) (execQ call sh n (compC b) kn ke kr q s.mem s.tips s.nv)) q=some z:=h
   rw[opdK_eq hok.1 hr] at h
   unfold pickV at h
   simp only
   split at h
   ·rename_i t ht
    rw[ht]
    cases t with
    |true=>exact execQ_ok n a kn ke kr q s hok.2.1 hr h
    |false=>exact execQ_ok n b kn ke kr q s hok.2.2 hr h
   ·cases h
  | block id c =>
   simp only[okAC] at hok
   have h:execQ call sh n (compC c) kn (exK id kn ke) kr q s.mem s.tips s.nv=some z:=h
   obtain⟨x,s1,q1,h1,h2,h3⟩:=execQ_ok n c _ _ _ q s hok hr h
   simp only[h1]
   cases x with
   |normal=>exact⟨.normal,s1,q1,rfl,h2,h3⟩
   |ret=>exact⟨.ret,s1,q1,rfl,h2,h3⟩
   |exit id'=>
    have h3:exK id kn ke id' q1 s1.mem s1.tips s1.nv=some z:=h3
    unfold exK at h3
    cases hb:Nat.beq id' id with
    |true=>rw[hb] at h3;exact⟨.normal,s1,q1,by simp only[hb],h2,h3⟩
    |false=>rw[hb] at h3;exact⟨.exit id',s1,q1,by simp only[hb],h2,h3⟩
  |loop c=>
   simp only[okAC] at hok
   have h:execQ call sh n (compC c) (execQ call sh n (compC (.loop c)) kn ke kr) ke kr q s.mem s.tips s.nv=some z:=h
   obtain⟨x,s1,q1,h1,h2,h3⟩:=execQ_ok n c _ _ _ q s hok hr h
   simp only[h1]
   cases x with
   |normal=>exact execQ_ok n (.loop c) kn ke kr q1 s1 hok h2 h3
   |exit id=>exact⟨.exit id,s1,q1,rfl,h2,h3⟩
   |ret=>exact⟨.ret,s1,q1,rfl,h2,h3⟩
  |exit id=>exact⟨.exit id,s,q,rfl,hr,h⟩
  |ret=>exact⟨.ret,s,q,rfl,hr,h⟩
inductive QR where
 |t (g:Gt)
 |cell (g:Gt) (sz:Nat) (agg:Bool)
structure QFn where
 np:Nat
 res:List QR
 body:QC
 sh:Bool
def notV (k:AV→Ans) (v:AV):Ans:=Bool.rec (motive:=fun _=>Ans) none (k v) (notTup v)
def celV (m:Mm) (sz:Nat) (agg:Bool) (k:AV→Ans) (v:AV):Ans:=Option.rec (motive:=fun _=>Ans) none (valK k) ((loadA m sz v).bind (wrapAgg agg))
def res1 (m:Mm) (q:Q) (k:AV→Ans) (r:QR):Ans:=QR.rec (motive:=fun _=>Ans) (fun g=>g (notV k) q) (fun g sz agg=>g (celV m sz agg k) q) r
def resL (l:List QR):Mm→Q→(List AV→Ans)→Ans:=List.rec (motive:=fun _=>Mm→Q→(List AV→Ans)→Ans) (fun _ _ k=>k []) (fun r _ ih m q k=>res1 m q (fun v=>ih m q fun vs=>k (v :: vs)) r) l
def retK (l:List QR):K:=fun q m t n=>resL l m q fun vs=>some (tupOf vs,m,t,n)
def compRes:ARes→QR
 |.t n=>.t (gK n)
 |.cell n sz agg=>.cell (gK n) sz agg
def okRes:ARes→Bool
 |.t n=>Nat.blt n 1024
 |.cell n _ _=>Nat.blt n 1024
theorem resL_ok {s:St} {q:Q} (hr:Rel q s.slots) {z:AV×List (Tr Ent)×Tr Unit×Nat} : ∀ {l:List ARes} {k:List AV→Ans},l.all okRes=true→resL (l.map compRes) s.mem q k=some z→∃ vs,resAll s l=some vs∧k vs=some z
 |[],k,_,h=>⟨[],rfl,h⟩
 | r :: l, k, hok, h => by
  simp only[List.all_cons,Bool.and_eq_true] at hok
  have h:res1 s.mem q (fun v=>resL (l.map compRes) s.mem q fun vs=>k (v :: vs)) (compRes r)=some z:=h
  have one:∀ {k:AV→Ans},res1 s.mem q k (compRes r)=some z→∃ v,resA s r=some v∧k v=some z:=by
   intro k h
   cases r with
   |t n=>
    have hn:n<1024:=by simpa[okRes,Nat.blt_eq] using hok.1
    have h:gK n (notV k) q=some z:=h
    rw[gK_eq hn,hr n hn] at h
    unfold notV at h
    cases hb:notTup (getS s.slots n) with
    |false=>rw[hb] at h;cases h
    |true=>rw[hb] at h;exact⟨_,by simp only[resA,hb],h⟩
   |cell n sz agg=>
    have hn:n<1024:=by simpa[okRes,Nat.blt_eq] using hok.1
    have h:gK n (celV s.mem sz agg k) q=some z:=h
    rw[gK_eq hn,hr n hn] at h
    unfold celV at h
    cases hb:(loadA s.mem sz (getS s.slots n)).bind (wrapAgg agg) with
    |none=>rw[hb] at h;cases h
    |some v=>rw[hb] at h;exact⟨v,hb,by rw[←valK_eq k v];exact h⟩
  obtain⟨v,h1,h2⟩:=one h
  obtain⟨vs,h3,h4⟩:=resL_ok hr hok.2 h2
  exact⟨v :: vs,by simp only[resAll,h1,h3],h4⟩
def okFn (a:AFn):Bool:=Nat.ble a.np 32&&(a.res.all okRes&&okAC a.body)
def compF (a:AFn):Option QFn:=match okFn a with
 |true=>some ⟨a.np,a.res.map compRes,compC a.body,a.sh⟩
 |false=>none
def shQ (Fs:Nat→Option QFn) (g:Nat):Bool:=match Fs g with
 |some f=>f.sh
 |none=>false
def fnQ (call:Call) (Fs:Nat→Option QFn) (n:Nat) (args:List AV) (mem:Mm) (tips:Tr Unit) (nv:Nat) (fn:QFn):Ans:=
 Bool.rec (motive:=fun _=>Ans) none (execQ call (shQ Fs) n fn.body (retK fn.res) (fun _=>deadK) (retK fn.res) (argQ args) mem tips nv) (Nat.beq args.length fn.np)
def stepQ (call:Call) (Fs:Nat→Option QFn) (n:Nat):Call:=fun f args mem tips nv=>Option.rec (motive:=fun _=>Ans) none (fnQ call Fs n args mem tips nv) (Fs f)
def altQ (a b:Call):Call:=fun f args mem tips nv=>Option.rec (motive:=fun _=>Ans) (b f args mem tips nv) (fun r=>some r) (a f args mem tips nv)
def runQ (O:Call) (Fs:Nat→Option QFn) (n:Nat):Call:=Nat.rec (motive:=fun _=>Call) (fun _ _ _ _ _=>none) (fun n ih=>altQ O (stepQ ih Fs n)) n
theorem runQ_ok {O:Call} {Fs:Nat→Option QFn} {tab:Nat→Option AFn} (hF:∀ f,Fs f=(tab f).bind compF) (hok:∀ f a,tab f=some a→okFn a=true):∀ n,CallLe (runQ O Fs n) (runFO O tab n)
 |0=>fun _ _ _ _ _ _ h=>by cases h
 | n + 1 => by
  intro f args mem tips nv z h
  have ih:=runQ_ok (O:=O) hF hok n
  show altCall O (stepF (runFO O tab n) tab n) f args mem tips nv=some z
  have h:altQ O (stepQ (runQ O Fs n) Fs n) f args mem tips nv=some z:=h
  unfold altQ at h
  unfold altCall
  cases hO:O f args mem tips nv with
  |some r=>rw[hO] at h;exact h
  | none =>
   rw[hO] at h
   have h:stepQ (runQ O Fs n) Fs n f args mem tips nv=some z:=h
   unfold stepQ at h
   unfold stepF
   have hf:=hF f
   cases ha:tab f with
   |none=>rw[ha] at hf;rw[hf] at h;cases h
   | some a =>
    have hoka:=hok f a ha
    have hc:compF a=some ⟨a.np,a.res.map compRes,compC a.body,a.sh⟩:=by unfold compF;rw[hoka]
    rw[ha] at hf
    have hf:Fs f=some ⟨a.np,a.res.map compRes,compC a.body,a.sh⟩:=by rw[hf];exact hc
    rw[hf] at h
    have h:fnQ (runQ O Fs n) Fs n args mem tips nv ⟨a.np,a.res.map compRes,compC a.body,a.sh⟩=some z:=h
    unfold fnQ at h
    simp only at h ⊢
    cases hb:Nat.beq args.length a.np with
    |false=>rw[hb] at h;cases h
    | true =>
     rw[hb] at h
     have h:execQ (runQ O Fs n) (shQ Fs) n (compC a.body) (retK (a.res.map compRes)) (fun _=>deadK) (retK (a.res.map compRes)) (argQ args) mem tips nv=some z:=h
     unfold okFn at hoka
     rw[Bool.and_eq_true,Bool.and_eq_true] at hoka
     have hlen:args.length≤32:=by
      rw[Nat.eq_of_beq_eq_true hb];exact Nat.le_of_ble_eq_true hoka.1
     have hsh:shQ Fs=fun g=>((tab g).map (·.sh)).getD false:=by
      funext g
      unfold shQ
      rw[hF g]
      cases hg:tab g with
      |none=>rfl
      |some b=>
       have:compF b=some ⟨b.np,b.res.map compRes,compC b.body,b.sh⟩:=by unfold compF;rw[hok g b hg]
       show (match compF b with|some f=>f.sh|none=>false)=_
       rw[this];rfl
     obtain⟨x,s',q',h1,h2,h3⟩:=execQ_ok n a.body _ _ _ (argQ args) { slots:=argSlots 0 args .lf,mem,tips,nv } hoka.2.2 (argQ_rel hlen) h
     rw[hsh] at h1
     have h1:=exec_call_le ih n n a.body _ _ (Nat.le_refl n) h1
     simp only
     rw[h1]
     have fin:retK (a.res.map compRes) q' s'.mem s'.tips s'.nv=some z→(resAll s' a.res).map (fun vs=>(tupOf vs,s'.mem,s'.tips,s'.nv))=some z:=by
      intro h
      obtain⟨vs,h4,h5⟩:=resL_ok h2 hoka.2.1 h
      rw[h4];exact h5
     cases x with
     |normal=>exact fin h3
     |ret=>exact fin h3
     |exit id=>cases h3
end
end Go.Eng
namespace Go.Eng
open Go
set_option linter.unusedVariables false
noncomputable section
def thaw1 (cm:List (Tr Ent)):AV→Option AV
 |.agg cs=>(allO (deepC cm 9) cs).map fun ds=>.agg (ds.map .d)
 |.tup _=>none
 |x=>(deepC cm 9 x).map .d
def thawR (cm:List (Tr Ent)):AV→Option AV
 |.tup vs=>(allO (thaw1 cm) vs).map .tup
 |x=>thaw1 cm x
def thawG (call:Go.Eng.Call):Go.Eng.Call:=fun f args mem tips nv=>match call f args mem tips nv with
 |some (r,cm,_,n)=>(thawR cm r).map fun v=>(v,[.lf],.lf,n)
 |none=>none
theorem thaw1_ok {X:Cx} {m:List (Tr Ent)} {t:Tr Unit} (h:MemOK X m t) {x y:AV} {v:Value} (hx:thaw1 m x=some y) (hv:V1 X x v):V1 X.given y v:=by
 have one:∀ {x:AV},(deepC m 9 x).map AV.d=some y→VC X x v→V1 X.given y v:=by
  intro x hx hv
  obtain⟨d,h1,rfl⟩:=opt_map hx
  exact .of_VC (deepC_ok h 9 h1 hv)
 cases x with
 |agg cs=>
  simp only[thaw1] at hx
  obtain⟨ds,h1,rfl⟩:=opt_map hx
  obtain⟨vs,rfl,h3⟩:=hv
  exact⟨vs,rfl,deepCs_ok h h1 h3⟩
 |tup cs=>cases hx
 |_=>simp only[thaw1] at hx;exact one hx hv
theorem thaw1s_ok {X:Cx} {m:List (Tr Ent)} {t:Tr Unit} (h:MemOK X m t):∀ {xs ys:List AV} {vs:List Value},allO (thaw1 m) xs=some ys→All2 (V1 X) xs vs→All2 (V1 X.given) ys vs
 |[],ys,[],hx,_=>by simp only[allO] at hx;injection hx with hx;subst hx;trivial
 | x :: xs, ys, v :: vs, hx, hv => by
  simp only[allO] at hx
  split at hx
  ·rename_i y ys' h1 h2
   injection hx with hx;subst hx
   exact⟨thaw1_ok h h1 hv.1,thaw1s_ok h h2 hv.2⟩
  ·cases hx
 |[],_,_ :: _,_,hv=>hv.elim
 |_ :: _,_,[],_,hv=>hv.elim
theorem thawR_ok {X:Cx} {m:List (Tr Ent)} {t:Tr Unit} (h:MemOK X m t) {x y:AV} {v:Value} (hx:thawR m x=some y) (hv:VR X x v):VR X.given y v:=by
 cases x with
 |tup xs=>
  simp only[thawR] at hx
  obtain⟨ys,h1,rfl⟩:=opt_map hx
  obtain⟨vs,rfl,h3⟩:=hv
  exact⟨vs,rfl,thaw1s_ok h h1 h3⟩
 |_=>simp only[thawR] at hx;exact .of_V1 (thaw1_ok h hx hv)
theorem thawG_ok {P:Program} {call:Go.Eng.Call} (hc:CallOK P call):CallOK P (thawG call):=by
 intro f args mem tips nv r mem' tips' nv' h X vargs hmem hdom hargs
 unfold thawG at h
 split at h
 ·rename_i rv cm ct n hcall
  obtain⟨y,hd,he⟩:=opt_map h
  simp only[Prod.mk.injEq] at he
  obtain⟨rfl,rfl,rfl,rfl⟩:=he
  obtain⟨hfn,hcl⟩:=hc f args mem tips nv _ _ _ _ hcall X vargs hmem hdom hargs
  refine⟨hfn,hcl.mono ?_⟩
  rintro e w' ⟨Y,v,rfl,rfl,hx,hv,hm,hn,hρ⟩
  refine⟨Y.given,_,rfl,rfl,⟨hx.base,hx.below,fun b o hb=>.inl (hx.reg b o hb),hx.keep,hx.loc,fun b o hb=>?_⟩,thawR_ok hm hd hv,none_mem (fun b o hb=>?_) ⟨hm.lows.lt,hm.lows.gb,hm.lows.gk⟩,hn,hρ⟩
  ·rcases hb with hb | hb
   ·exact hx.new b o hb
   ·exact .inr (hx.base ▸ hb.1)
  ·rcases hb with hb | hb
   ·exact hm.inF b o hb
   ·exact hb.2
 ·cases h
def eqVq (a b:Value):Bool:=match a with
 |.bool x=>(match b with|.bool y=>x==y|_=>false)
 |.int k x=>(match b with|.int k' y=>and (eqZ x y) (kEq k k')|_=>false)
 |.string x=>(match b with|.string y=>decide (x.data.toList=y.data.toList)|_=>false)
 |.nilIface=>(match b with|.nilIface=>true|_=>false)
 |_=>false
theorem eqVq_eq {a b:Value} (h:eqVq a b=true):a=b:=by
 unfold eqVq at h
 split at h
 ·split at h
  ·rw[eq_of_beq h]
  ·cases h
 ·split at h
  ·rw [Bool.and_eq_true, eqZ_eq, kEq_eq] at h
   rw[eq_of_beq h.1,of_decide_eq_true h.2]
  ·cases h
 ·split at h
  ·rename_i x _ y
   have:=of_decide_eq_true h
   have:x=y:=by
    cases x with
    |mk a=>cases y with
     |mk b=>congr 1;exact Array.toList_inj.1 this
   rw[this]
  ·cases h
 ·split at h
  ·rfl
  ·cases h
 ·cases h
def eqLz {α : Type} (b:List α):Bool:=List.rec (motive:=fun _=>Bool) true (fun _ _ _=>false) b
def eqLs {α : Type} (fa : α→Bool) (ih:List α→Bool) (b:List α):Bool:=List.rec (motive:=fun _=>Bool) false (fun y r _=>and (fa y) (ih r)) b
def eqLq {α : Type} (f : α→α→Bool) (a:List α):List α→Bool:=List.rec (motive:=fun _=>List α→Bool) eqLz (fun x _ ih=>eqLs (f x) ih) a
theorem eqLq_eq {α : Type} {f : α→α→Bool} : ∀ {a b:List α},(∀ x∈a,∀ y,f x y=true→x=y)→eqLq f a b=true→a=b
 |[],[],_,_=>rfl
 |[],_ :: _,_,h=>by cases h
 |_ :: _,[],_,h=>by cases h
 |x :: a,y :: b,hf,h=>by
  have h:and (f x y) (eqLq f a b)=true:=h
  rw[Bool.and_eq_true] at h
  rw[hf x (by simp) y h.1,eqLq_eq (fun z hz=>hf z (by simp[hz])) h.2]
def eqDer (b:D):Bool:=match b with|.er=>true|_=>false
def eqDsc (v:Value) (b:D):Bool:=match b with|.sc w=>eqVq v w|_=>false
def eqDsl (ih:List (List D)→Bool) (b:D):Bool:=match b with|.sl l=>ih l|_=>false
def eqDq (a:D):D→Bool:=D.rec (motive_1:=fun _=>D→Bool) (motive_2:=fun _=>List (List D)→Bool) (motive_3:=fun _=>List D→Bool) eqDsc (fun _ ih=>eqDsl ih) eqDer eqLz (fun _ _ h t=>eqLs h t) eqLz (fun _ _ h t=>eqLs h t) a
def eqDq1 (a:List (List D)):List (List D)→Bool:=D.rec_1 (motive_1:=fun _=>D→Bool) (motive_2:=fun _=>List (List D)→Bool) (motive_3:=fun _=>List D→Bool) eqDsc (fun _ ih=>eqDsl ih) eqDer eqLz (fun _ _ h t=>eqLs h t) eqLz (fun _ _ h t=>eqLs h t) a
def eqDq2 (a:List D):List D→Bool:=D.rec_2 (motive_1:=fun _=>D→Bool) (motive_2:=fun _=>List (List D)→Bool) (motive_3:=fun _=>List D→Bool) eqDsc (fun _ ih=>eqDsl ih) eqDer eqLz (fun _ _ h t=>eqLs h t) eqLz (fun _ _ h t=>eqLs h t) a
mutual
theorem eqDq_eq:∀ (a b:D),eqDq a b=true→a=b
 |.sc v,b,h=>by
  have h:eqDsc v b=true:=h
  unfold eqDsc at h
  split at h
  ·rw[eqVq_eq h]
  ·cases h
 |.sl els,b,h=>by
  have h:eqDsl (eqDq1 els) b=true:=h
  unfold eqDsl at h
  split at h
  ·rw[eqDq1_eq els _ h]
  ·cases h
 |.er,b,h=>by
  have h:eqDer b=true:=h
  unfold eqDer at h
  split at h
  ·rfl
  ·cases h
theorem eqDq1_eq:∀ (a b:List (List D)),eqDq1 a b=true→a=b
 |[],[],_=>rfl
 |[],_ :: _,h=>by cases h
 |_ :: _,[],h=>by cases h
 |x :: a,y :: b,h=>by
  have h:and (eqDq2 x y) (eqDq1 a b)=true:=h
  rw[Bool.and_eq_true] at h
  rw[eqDq2_eq x y h.1,eqDq1_eq a b h.2]
theorem eqDq2_eq:∀ (a b:List D),eqDq2 a b=true→a=b
 |[],[],_=>rfl
 |[],_ :: _,h=>by cases h
 |_ :: _,[],h=>by cases h
 |x :: a,y :: b,h=>by
  have h:and (eqDq x y) (eqDq2 a b)=true:=h
  rw[Bool.and_eq_true] at h
  rw[eqDq_eq x y h.1,eqDq2_eq a b h.2]
end
def eqCq (a b:AV):Bool:=match a with
 |.d x=>(match b with|.d y=>eqDq x y|_=>false)
 |.own x .bor=>(match b with|.own y .bor=>eqDq1 x y|_=>false)
 |.clo f []=>(match b with|.clo g []=>Nat.beq f g|_=>false)
 |_=>false
def eqAq (a b:AV):Bool:=match a with
 |.agg x=>(match b with|.agg y=>eqLq eqCq x y|_=>false)
 |x=>eqCq x b
theorem eqCq_eq {a b:AV} (h:eqCq a b=true):a=b:=by
 unfold eqCq at h
 split at h
 ·split at h
  ·rw[eqDq_eq _ _ h]
  ·cases h
 ·split at h
  ·rw[eqDq1_eq _ _ h]
  ·cases h
 ·split at h
  ·rw[Nat.eq_of_beq_eq_true h]
  ·cases h
 ·cases h
theorem eqAq_eq {a b:AV} (h:eqAq a b=true):a=b:=by
 unfold eqAq at h
 split at h
 ·split at h
  ·rw[eqLq_eq (fun _ _ _ h=>eqCq_eq h) h]
  ·cases h
 ·exact eqCq_eq h
structure Known where
 f:Nat
 as:List AV
 v:AV
 n:Nat
def isNew (mem:List (Tr Ent)) (tips:Tr Unit) (nv:Nat):Bool:=match mem,tips,nv with
 |[.lf],.lf,0=>true
 |_,_,_=>false
def Known.ok (call:Go.Eng.Call) (e:Known):Prop:=call e.f e.as [.lf] .lf 0=some (e.v,[.lf],.lf,e.n)
def askZ (_:List AV):Ans:=none
def askS (e:Known) (_:List Known) (ih:List AV→Ans) (args:List AV):Ans:=Bool.rec (motive:=fun _=>Ans) (ih args) (some (e.v,[.lf],.lf,e.n)) (eqLq eqAq e.as args)
def askL (l:List Known):List AV→Ans:=List.rec (motive:=fun _=>List AV→Ans) askZ askS l
def knownG (args:List AV) (l:List Known):Ans:=askL l args
def known (T:Tr (List Known)):Go.Eng.Call:=fun f args mem tips nv=>Option.rec (motive:=fun _=>Ans) none (fun l=>Bool.rec (motive:=fun _=>Ans) none (knownG args l) (isNew mem tips nv)) (getTr T f)
def AllK (call:Go.Eng.Call) (f:Nat):List Known→Prop
 |[]=>True
 |e :: r=>(call f e.as [.lf] .lf 0=some (e.v,[.lf],.lf,e.n))∧AllK call f r
theorem askL_le {call:Go.Eng.Call} {f:Nat} : ∀ {l:List Known} {args:List AV} {z:AV×List (Tr Ent)×Tr Unit×Nat},AllK call f l→askL l args=some z→call f args [.lf] .lf 0=some z
 |[],_,_,_,h=>by cases h
 | e :: r, args, z, ha, h => by
  have h:Bool.rec (motive:=fun _=>Ans) (askL r args) (some (e.v,[.lf],.lf,e.n)) (eqLq eqAq e.as args)=some z:=h
  cases hb:eqLq eqAq e.as args with
  |false=>rw[hb] at h;exact askL_le ha.2 h
  |true=>
   rw[hb] at h
   rw[←eqLq_eq (fun _ _ _ h=>eqAq_eq h) hb,ha.1]
   exact h
theorem known_le {call:Go.Eng.Call} {T:Tr (List Known)} (h:∀ f l,T.get? f=some l→AllK call f l):CallLe (known T) call:=by
 intro f args mem tips nv z hz
 unfold known at hz
 rw[getTr_eq] at hz
 cases hT:T.get? f with
 |none=>rw[hT] at hz;cases hz
 | some l =>
  rw[hT] at hz
  have hz:Bool.rec (motive:=fun _=>Ans) none (knownG args l) (isNew mem tips nv)=some z:=hz
  cases hn:isNew mem tips nv with
  |false=>rw[hn] at hz;cases hz
  |true=>
   rw[hn] at hz
   unfold isNew at hn
   split at hn
   ·exact askL_le (h f l hT) hz
   ·cases hn
theorem le_ok {P:Program} {a b:Go.Eng.Call} (h:CallLe a b) (hb:CallOK P b):CallOK P a:=
 fun f args mem tips nv r m t n he=>hb f args mem tips nv r m t n (h f args mem tips nv _ he)
def TabK (call:Go.Eng.Call) (T:Tr (List Known)) (l:List (Nat×List Known)):Prop:=∀ f k,T.get? f=some k→(f,k)∈l
theorem known_ok {P:Program} {call:Go.Eng.Call} (hc:CallOK P call) {T:Tr (List Known)} (h:∀ f l,T.get? f=some l→AllK call f l):CallOK P (known T):=le_ok (known_le h) hc
theorem altQ_ok {P:Program} {a b:Go.Eng.Call} (ha:CallOK P a) (hb:CallOK P b):CallOK P (altQ a b):=by
 refine le_ok (b:=altCall a b) ?_ (alt_ok ha hb)
 intro f args mem tips nv z h
 unfold altQ at h
 unfold altCall
 cases hO:a f args mem tips nv with
 |some r=>rw[hO] at h;exact h
 |none=>rw[hO] at h;exact h
theorem runQ_OK {P:Program} {O:Go.Eng.Call} (hO:CallOK P O) {lib:Nat→Option TypeId} {md:Nat→Mode} {Fs:Nat→Option QFn} (hm:P.follows .mixedOrders=true) (hlib:∀ f T,lib f=some T→IsLib P f T)
  (hFs:∀ f q,Fs f=some q→(fnP P lib md f).bind compF=some q) (n:Nat):CallOK P (runQ O Fs n):=by
 let tab:Nat→Option AFn:=fun f=>match Fs f with
  |some _=>fnP P lib md f
  |none=>none
 have hF:∀ f,Fs f=(tab f).bind compF:=by
  intro f
  show _=Option.bind (match Fs f with|some _=>fnP P lib md f|none=>none) compF
  cases h:Fs f with
  |none=>rfl
  |some q=>exact (hFs f q h).symm
 have hok:∀ f a,tab f=some a→okFn a=true:=by
  intro f a ha
  have h1:=hF f
  cases h:Fs f with
  |none=>
   have:tab f=none:=by show (match Fs f with|some _=>fnP P lib md f|none=>none)=none;rw[h]
   rw[this] at ha;cases ha
  |some q=>
   rw[h,ha] at h1
   have h1:some q=compF a:=h1
   unfold compF at h1
   cases hb:okFn a with
   |true=>rfl
   |false=>rw[hb] at h1;cases h1
 exact le_ok (runQ_ok hF hok n) (runFO_ok hO hm hlib (fun f a ha=>by
  have ha:(match Fs f with|some _=>fnP P lib md f|none=>none)=some a:=ha
  split at ha
  ·exact ha
  ·cases ha) n)
def AllT {α : Type} : (Nat→α→Prop)→Tr α→Prop
 |_,.lf=>True
 |p,.nd v l r=>(match v with|some x=>p 0 x|none=>True)∧AllT (fun m=>p (2*m+1)) l∧AllT (fun m=>p (2*m+2)) r
theorem AllT.get {α : Type} : ∀ {t:Tr α} {p:Nat→α→Prop},AllT p t→∀ (n:Nat) (x : α),t.get? n=some x→p n x
 |.lf,_,_,_,_,h=>by cases h
 | .nd v l r, p, ha, n, x, h => by
  unfold Tr.get? at h
  obtain⟨h0,h1,h2⟩:=ha
  cases hz:Nat.beq n 0 with
  |true=>
   rw[hz] at h
   simp only at h
   subst h
   have:=Nat.eq_of_beq_eq_true hz
   subst this
   exact h0
  | false =>
   rw[hz] at h
   simp only at h
   have hn:n≠0:=by rintro rfl;cases hz
   cases ho:Nat.beq (n % 2) 1 with
   |true=>
    rw[ho] at h
    simp only at h
    have:=Nat.eq_of_beq_eq_true ho
    have hp:=AllT.get h1 (n / 2) x h
    rwa[show 2*(n / 2)+1=n by omega] at hp
   |false=>
    rw[ho] at h
    simp only at h
    have:n % 2≠1:=by intro q;rw[q] at ho;cases ho
    have hp:=AllT.get h2 (n / 2-1) x h
    rwa[show 2*(n / 2-1)+2=n by omega] at hp
def I (n:Nat):D:=.sc (.int .i64 (Int.ofNat n))
def J (n:Nat):D:=.sc (.int .i64 (Int.negSucc n))
def B (n:Nat):D:=.sc (.int .u8 (Int.ofNat n))
def U (n:Nat):D:=.sc (.int .u64 (Int.ofNat n))
def T:D:=.sc (.bool true)
def F:D:=.sc (.bool false)
end
end Go.Eng
