/- Calls that work on the caller's memory. -/
import Derived.Test.YtdefleeofgekkaaEngR
namespace Go.Eng
open Go Go.RowKit

theorem V1.of_notTup {X : Cx} {x : AV} {v : Value} (h : notTup x = true) (hv : VR X x v) : V1 X x v := by
  cases x with
  | tup => cases h
  | _ => exact hv
theorem All2.notTup {X : Cx} : ∀ {xs : List AV} {vs : List Value}, xs.all Go.Eng.notTup = true → All2 (VR X) xs vs → All2 (V1 X) xs vs
  | [], [], _, _ => trivial
  | x :: xs, v :: vs, h, hv => by
    simp only [List.all_cons, Bool.and_eq_true] at h
    exact ⟨V1.of_notTup h.1 hv.1, All2.notTup h.2 hv.2⟩
  | [], _ :: _, _, hv => hv.elim
  | _ :: _, [], _, hv => hv.elim

theorem memGet_append_lf (m : List (Tr Ent)) (lv sl : Nat) : memGet (m ++ [.lf]) lv sl = memGet m lv sl := by
  unfold memGet
  rw [List.getElem?_append]
  split
  · rfl
  · rename_i h
    rw [List.getElem?_eq_none (l := m) (by omega)]
    cases hk : lv - m.length with
    | zero => rfl
    | succ k => rfl

section
variable {P : Program} {X : Cx} {nt : Nat} {s : St} {a : Act} {o : Oper} {dst : Option Nat} {nvi : Nat}

theorem call_shared {call : Go.Eng.Call} (hcall : CallOK P call) (hs : Sim X nt s a) (hfr : X.ρ nvi = none) (hnv : nvi < s.nv) (hdom : ∀ v, s.nv ≤ v → X.ρ v = none) {f pk lv sl : Nat} {args : List AV} {vargs : Array Value} {r val : AV} {cm : List (Tr Ent)} {ts : Tr Unit} {n' : Nat} {us : List (List (List D))} {u : List (Nat × Nat × Option Ent)}
    (hargs : All2 (VR X) args vargs.toList) (hnt : args.all notTup = true) (hc : call f args (s.mem ++ [.lf]) s.tips s.nv = some (r, cm, ts, n')) (hi : impR cm s.mem.length pk lv sl nvi r = some (val, us)) (hu : rowUpd lv sl nvi us = some u)
    (hrun : (∃ fn, P.funcs[f]? = some fn ∧ fn.body.isSome = true ∧ (fn.name == "runtime.NumGoroutine") = false) → (execOp a.eval o).run P X.w = .ok (.enter f vargs) X.w) :
    After P X s a o dst nvi (.all val (applyUpd (cm.take s.mem.length) u) ts n') := by
  intro K Q hK
  have hm0 : MemOK X (s.mem ++ [.lf]) s.tips := hs.mem.congr (fun lv sl => memGet_append_lf _ _ _) fun _ => rfl
  obtain ⟨hfn, hcalls⟩ := hcall f args (s.mem ++ [.lf]) s.tips s.nv r cm ts n' hc X vargs hm0 hdom (All2.notTup hnt hargs)
  unfold Oper.wp
  rw [hrun hfn, Oper.upon_enter]
  refine Calls.mono hcalls ?_
  rintro e w' ⟨Z, v, rfl, rfl, hxZ, hvZ, hmZ, hn, hdZ⟩
  show K (a.put o.dst v) Z.w
  have hρnvi : Z.ρ nvi = none := by
    cases hz : Z.ρ nvi with
    | none => rfl
    | some L =>
      rcases hdZ nvi L hz with h | h
      · rw [hfr] at h; cases h
      · omega
  have hless : MemOK Z (cm.take s.mem.length) ts := hmZ.less (fun lv sl e he => by
    rw [memGet_take] at he
    split at he
    · exact he
    · cases he) fun _ h => h
  have key_low : ∀ {k : Nat × Nat × Nat} {v : Nat}, Holds (cm.take s.mem.length) ts k v → Holds cm ts k v ∧ ∀ lv' sl', s.mem.length ≤ lv' → k ≠ keyE lv' sl' := by
    rintro k v (⟨lv', sl', e', rfl, he', hv'⟩ | ⟨rfl, he'⟩)
    · rw [memGet_take] at he'
      split at he'
      · rename_i hlt
        refine ⟨.inl ⟨lv', sl', e', rfl, he', hv'⟩, fun lv'' sl'' hle hq => ?_⟩
        have := (keyE_inj hq).1
        omega
      · cases he'
    · exact ⟨.inr ⟨rfl, he'⟩, fun _ _ _ hq => keyE_ne_keyT hq.symm⟩
  -- the blocks of the rows of the call's own level
  let G : Option Nat → Nat → Nat → Prop := fun p b _ => some b ≠ p ∧ ∃ lv' sl' e L, s.mem.length ≤ lv' ∧ memGet cm lv' sl' = some e ∧ e.fz = false ∧ Z.ρ e.ver = some L ∧ 0 < L.cap ∧ L.b = b
  have mk : ∀ p, Ext Z (Z.more (G p)) ∧ MemOK (Z.more (G p)) (cm.take s.mem.length) ts := by
    intro p
    have hin : ∀ b o, G p b o → Z.base ≤ b ∧ b < Z.w.heap.size := by
      rintro b o ⟨_, lv', sl', e, L, _, hg, hz, hL, hc, rfl⟩
      obtain ⟨M, hM, h2⟩ := hmZ.holds_ρ (.inl ⟨lv', sl', e, rfl, hg, rfl, hz⟩)
      rw [hL] at hM; injection hM with hM; subst hM
      exact ⟨(h2 hc).2, (h2 hc).1⟩
    refine ⟨Ext.more fun b o h => (hin b o h).1, hless.more hin ?_⟩
    rintro k v M o hk hv hMc ⟨_, lv', sl', e, L, hle, hg, hz, hL, hc, hb⟩
    obtain ⟨h1, h2⟩ := key_low hk
    exact hmZ.apart _ _ _ _ _ _ h1 (.inl ⟨lv', sl', e, rfl, hg, rfl, hz⟩) (h2 lv' sl' hle) hv hL hMc hc hb.symm
  rcases impR_b hmZ hi hvZ with ⟨rfl, hb⟩ | ⟨els, len, sz, v', rfl, ⟨hpk, ⟨L, off, ad, cap, g3, g4, g5, g6, g7'⟩⟩, hb⟩ | hlen
  · simp only [rowUpd] at hu
    injection hu with hu; subst hu
    obtain ⟨y5, y6⟩ := mk none
    refine hK (Z.more (G none)) v (hxZ.trans y5) (hb (Z.more (G none)) ⟨rfl, fun b o h => .inl h, fun _ _ _ h => h, fun _ lv' sl' e L hle hg hz hL hc o => .inr ⟨by simp, lv', sl', e, L, hle, hg, hz, hL, hc, rfl⟩⟩) y6 ⟨hn, fun u L hL => ?_⟩
    rcases hdZ u L hL with h | h
    · exact .inl h
    · exact .inr (.inr h)
  · simp only [rowUpd] at hu
    injection hu with hu; subst hu
    subst g3
    have g7 := fun hc => (g7' hc).2
    obtain ⟨y5, y6⟩ := mk (some L.b)
    obtain ⟨W, w1, w2, w3, w4, w5, w6, w7⟩ := picked_row (Z := Z) (Y := Z.more (G (some L.b))) (lv := lv) (sl := sl) (ver := nvi) y6 rfl (fun b o h => .inl h) (Nat.le_refl _) hρnvi g4 g5 g6 g7 fun hc => ⟨fun o h => by
        rcases h with h | h
        · exact (g7 hc).2.2.2.2.2.1 o h
        · exact h.1 rfl, fun k u M hk hM hMc => by
        obtain ⟨h1, h2⟩ := key_low hk
        obtain ⟨lv', sl', e, g0, g1, g2⟩ := (g7' hc).1
        exact hmZ.apart _ _ _ _ _ _ h1 (.inl ⟨lv', sl', e, rfl, g1.1, rfl, g1.2⟩) (h2 lv' sl' g0) hM g2 hMc (g7 hc).2.2.2.1⟩
    have hxW : Ext (Z.more (G (some L.b))) W := ⟨w3, by rw [w1]; exact Below.refl _ _, fun b o h => by rw [w2]; exact h, fun b o _ => by rw [w1], w4, fun b o h => by rw [w2] at h; exact .inl h⟩
    rw [show Z.w = W.w from w1.symm]
    refine hK W v ((hxZ.trans y5).trans hxW) (hb W ⟨w1, fun b o h => by rw [w2]; exact .inl h, fun _ u M hM => w4 u M hM, fun h => absurd h hpk⟩ w7) w6 ⟨hn, fun u M hM => ?_⟩
    rcases w5 u M hM with h | h
    · rcases hdZ u M h with h | h
      · exact .inl h
      · exact .inr (.inr h)
    · exact .inr (.inl h)
  · match us, hlen with
    | _ :: _ :: _, _ => simp [rowUpd] at hu

/-- a call, of either kind -/
theorem doCall_ok {call : Go.Eng.Call} (hcall : CallOK P call) (hs : Sim X nt s a) (hfr : X.ρ nvi = none) (hnv : nvi < s.nv) (hdom : ∀ v, s.nv ≤ v → X.ρ v = none) {shared : Bool} {f pk lv sl : Nat} {args : List AV} {vargs : Array Value} {r : Res}
    (hargs : All2 (VR X) args vargs.toList) (hr : doCall call shared pk s lv sl nvi f args = some r)
    (hrun : (∃ fn, P.funcs[f]? = some fn ∧ fn.body.isSome = true ∧ (fn.name == "runtime.NumGoroutine") = false) → (execOp a.eval o).run P X.w = .ok (.enter f vargs) X.w) : After P X s a o dst nvi r := by
  unfold doCall at hr
  split at hr
  · split at hr
    · cases hr
    · rename_i as ks hl
      split at hr
      · cases hr
      · rename_i r' cm ts n' hc
        split at hr
        · cases hr
        · rename_i v us hi
          split at hr
          · cases hr
          · rename_i u hu
            injection hr with hr; subst hr
            exact call_iso hcall hs hfr hargs hl hc hi hu hrun
  · split at hr
    · cases hr
    · rename_i hnt
      split at hr
      · cases hr
      · rename_i r' cm ts n' hc
        split at hr
        · cases hr
        · rename_i v us hi
          split at hr
          · cases hr
          · rename_i u hu
            injection hr with hr; subst hr
            exact call_shared hcall hs hfr hnv hdom hargs hnt hc hi hu hrun
end
end Go.Eng
