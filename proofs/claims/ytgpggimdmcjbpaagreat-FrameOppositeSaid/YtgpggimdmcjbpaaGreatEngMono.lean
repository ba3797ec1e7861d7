/- What the machine yields with some fuel, it yields with more. -/
import Derived.Test.YtgpggimdmcjbpaaGreatEngA
namespace Go.Eng
open Go
def CallLe (a b:Call):Prop:=∀ f x m t n r,a f x m t n=some r→b f x m t n=some r
variable {call call':Call} {sh:Nat→Bool}
theorem doBox_mono (hc:CallLe call call') {s:St} {f lb sb vb:Nat} {args:List AV} {r:Res} (h:doBox call s f lb sb vb args=some r):doBox call' s f lb sb vb args=some r:=by
 unfold doBox at h ⊢
 split at h
 ·cases h
 split at h
 ·split at h
  ·cases h
  ·rename_i he
   rw[hc _ _ _ _ _ _ he]
   exact h
 ·cases h
theorem doCall_mono (hc:CallLe call call') {b:Bool} {row:Nat} {s:St} {lv sl nvi f:Nat} {args:List AV} {r:Res} (h:doCall call b row s lv sl nvi f args=some r):doCall call' b row s lv sl nvi f args=some r:=by
 unfold doCall at h ⊢
 cases b with
 | false =>
  simp only at h ⊢
  cases hba:boxArgs args with
  |some x=>
   obtain⟨lb,sb,vb,rest⟩:=x
   rw[hba] at h
   exact doBox_mono hc h
  |none=>
  rw[hba] at h
  simp only at h ⊢
  split at h
  ·cases h
  ·rename_i as ks hl
   split at h
   ·cases h
   ·rename_i r' cm ts n he
    rw[hc _ _ _ _ _ _ he]
    exact h
 | true =>
  simp only at h ⊢
  split at h
  ·cases h
  ·split at h
   ·cases h
   ·rename_i r' cm ts n he
    rw[hc _ _ _ _ _ _ he]
    exact h
theorem doFlat_mono (hc:CallLe call call') {s:St} {f:Nat} {args:List AV} {r:Res} (h:doFlat call s f args=some r):doFlat call' s f args=some r:=by
 unfold doFlat at h ⊢
 split at h
 ·cases h
 ·rename_i as ha
  split at h
  ·cases h
  ·rename_i r' cm ts n he
   rw[hc _ _ _ _ _ _ he]
   exact h
theorem run_mono (hc:CallLe call call') {s:St} {row dst nvi:Nat} {o:AOp} {r:Res} (h:o.run call sh s row dst nvi=some r):o.run call' sh s row dst nvi=some r:=by
 cases o with
 |call f args=>exact doCall_mono hc h
 |callF f args=>
  simp only[AOp.run] at h ⊢
  split at h
  ·exact doCall_mono hc h
  ·exact doFlat_mono hc h
 |callv x args=>
  simp only[AOp.run] at h ⊢
  split at h
  ·exact doCall_mono hc h
  ·cases h
 |_=>exact h
theorem step_mono (hc:CallLe call call') {s:St} {nvi:Nat} {o:AOper} {r:Res} (h:o.step call sh s nvi=some r):o.step call' sh s nvi=some r:=by
 unfold AOper.step at h ⊢
 split at h
 ·cases h
 ·exact run_mono hc h
 ·exact h
theorem runOps_mono (hc:CallLe call call') {nv0:Nat} : ∀ {l:List AOper} {i:Nat} {s r:St},runOps call sh nv0 i l s=some r→runOps call' sh nv0 i l s=some r
 |[],_,_,_,h=>h
 | o :: l, i, s, r, h => by
  unfold runOps at h ⊢
  split at h
  ·cases h
  ·rename_i e he
   rw[step_mono hc he]
   exact runOps_mono hc h
theorem runAny_mono (hc:CallLe call call') {nv0:Nat} : ∀ {l:List AOper} {i:Nat} {p:List (Nat×Res)} {s r:St},runAny call sh nv0 i l p s=some r→runAny call' sh nv0 i l p s=some r
 |[],_,_,_,_,h=>h
 | o :: l, i, p, s, r, h => by
  unfold runAny at h ⊢
  split at h
  ·cases h
  ·rename_i e he
   rw[step_mono hc he]
   simp only
   split at h
   ·exact runAny_mono hc h
   ·cases h
theorem runRegion_mono (hc:CallLe call call') {l:List AOper} {d:Bool} {s r:St} (h:runRegion call sh l d s=some r):runRegion call' sh l d s=some r:=by
 unfold runRegion at h ⊢
 cases d with
 |false=>exact runOps_mono hc h
 |true=>exact runAny_mono hc h
theorem exec_call_le (hc:CallLe call call'):∀ (n m:Nat) (c:AC) (s:St) (r:AX×St),n≤m→exec call sh n c s=some r→exec call' sh m c s=some r
 |0,_,_,_,_,_,h=>by cases h
 |n+1,0,_,_,_,hn,_=>by omega
 | n + 1, m + 1, c, s, r, hn, h => by
  have ih:=exec_call_le hc n m
  have hn:n≤m:=by omega
  unfold exec at h ⊢
  cases c with
  |skip=>exact h
  |region ops d=>
   simp only at h ⊢
   cases hr:runRegion call sh ops d s with
   |none=>rw[hr] at h;cases h
   |some s'=>rw[hr] at h;rw[runRegion_mono hc hr];exact h
  | seq a b =>
   simp only at h ⊢
   cases ha:exec call sh n a s with
   |none=>rw[ha] at h;cases h
   |some x=>
    rw[ha] at h
    rw[ih a s x hn ha]
    obtain⟨ax,s'⟩:=x
    cases ax with
    |normal=>exact ih b s' r hn h
    |exit id=>exact h
    |ret=>exact h
  |cond c a b=>
   simp only at h ⊢
   split at h
   ·exact ih a s r hn h
   ·exact ih b s r hn h
   ·cases h
  |block id c=>
   simp only at h ⊢
   cases ha:exec call sh n c s with
   |none=>rw[ha] at h;cases h
   |some x=>rw[ha] at h;rw[ih c s x hn ha];exact h
  | loop c =>
   simp only at h ⊢
   cases ha:exec call sh n c s with
   |none=>rw[ha] at h;cases h
   |some x=>
    rw[ha] at h
    rw[ih c s x hn ha]
    obtain⟨ax,s'⟩:=x
    cases ax with
    |normal=>exact ih _ s' r hn h
    |exit id=>exact h
    |ret=>exact h
  |exit id=>exact h
  |ret=>exact h
theorem runF_le {Fs:Nat→Option AFn} : ∀ (n m:Nat),n≤m→CallLe (runF Fs n) (runF Fs m)
 |0,_,_=>fun _ _ _ _ _ _ h=>by cases h
 |n+1,0,hn=>by omega
 | n + 1, m + 1, hn => fun f x mm t nv r h => by
  have ih:=runF_le (Fs:=Fs) n m (by omega)
  unfold runF at h ⊢
  split at h
  ·cases h
  ·rename_i fn hf
   split at h
   ·cases h
   ·cases he : exec (runF Fs n) (fun g => ((Fs g).map (·.sh)).getD false) n fn.body { slots := argSlots 0 x .lf, mem := mm, tips := t, nv } with
    |none=>rw[he] at h;cases h
    |some y=>
     rw[he] at h
     rw[exec_call_le ih n m fn.body _ y (by omega) he]
     exact h
end Go.Eng
