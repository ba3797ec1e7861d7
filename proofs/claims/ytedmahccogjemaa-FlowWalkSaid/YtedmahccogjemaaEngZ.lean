/- Code of the program against the machine of pure data. -/
import Derived.Test.YtedmahccogjemaaEngY
namespace Go.Eng
open Go Go.RowKit

def AX.exit' : AX → Exit
  | .normal => .normal
  | .exit id => .exit id
  | .ret => .ret

/-- what is known once the code has run -/
def Post (X : Cx) (nt : Nat) (s : St) (r : AX × St) (Q : Exit → Act → World → Prop) : Prop :=
  ∀ Y a', Ext X Y → Sim Y nt r.2 a' → s.nv ≤ r.2.nv → (∀ v L, Y.ρ v = some L → X.ρ v = some L ∨ (s.nv ≤ v ∧ v < r.2.nv)) → Q r.1.exit' a' Y.w

theorem Post.trans {X Y : Cx} {nt : Nat} {s s' : St} {r : AX × St} {Q : Exit → Act → World → Prop} (h : Post X nt s r Q) (hx : Ext X Y) (hn : s.nv ≤ s'.nv) (hd : ∀ v L, Y.ρ v = some L → X.ρ v = some L ∨ (s.nv ≤ v ∧ v < s'.nv)) : Post Y nt s' r Q := by
  intro Z a' hz hs hn' hd'
  refine h Z a' (hx.trans hz) hs (Nat.le_trans hn hn') fun v L hv => ?_
  rcases hd' v L hv with h | h
  · rcases hd v L h with h | h
    · exact .inl h
    · exact .inr (by omega)
  · exact .inr (by omega)
theorem Post.now {X : Cx} {nt : Nat} {s : St} {a : Act} {x : AX} {Q : Exit → Act → World → Prop} (h : Post X nt s (x, s) Q) (hs : Sim X nt s a) : Q x.exit' a X.w :=
  h X a (Ext.refl X) hs (Nat.le_refl _) fun _ _ h => .inl h
theorem dom_step {X Y : Cx} {n m : Nat} (h : ∀ v, n ≤ v → X.ρ v = none) (hn : n ≤ m) (hd : ∀ v L, Y.ρ v = some L → X.ρ v = some L ∨ (n ≤ v ∧ v < m)) : ∀ v, m ≤ v → Y.ρ v = none := by
  intro v hv
  cases hY : Y.ρ v with
  | none => rfl
  | some L =>
    rcases hd v L hY with h' | h'
    · rw [h v (by omega)] at h'; cases h'
    · omega

theorem Ext.drew (X : Cx) : Ext X { X with w := X.w.drew } :=
  ⟨rfl, (Below.refl _ _).drew, fun _ _ h => h, fun _ _ _ => rfl, fun _ _ h => h, fun _ _ h => .inl h⟩
theorem Sim.drew {X : Cx} {nt : Nat} {s : St} {a : Act} (h : Sim X nt s a) : Sim { X with w := X.w.drew } nt s a :=
  ⟨fun t => (h.slots t).ext (Ext.drew X), h.size, h.defers, h.mem.move (Ext.drew X) (fun _ _ _ _ _ _ => rfl) (fun _ _ _ _ _ _ _ h => h) h.mem.inF⟩

section
variable {P : Program} {nt : Nat} {call : Go.Eng.Call} {sh : Nat → Bool} {lib : Nat → Option TypeId} {rows : List (Nat × Nat)}

theorem opers_rel {ops : Array Oper} {bs : List Nat} {l : List AOper} (hb : bs.length = ops.size) (h : opersP P lib nt rows ops (ops.toList.zip bs) = some l) : OpsRel P lib nt ops l ∧ ∀ (i : Nat) (ao : AOper), l[i]? = some ao → bs[i]? = some ao.bef := by
  obtain ⟨h1, h2⟩ := opersP_spec h
  refine ⟨⟨by rw [h1, List.length_zip]; simp [hb], fun i ao hi => ?_⟩, fun i ao hi => ?_⟩
  · obtain ⟨o, b, g1, _, g2, g3, g4, g5⟩ := h2 i ao hi
    have := (List.getElem?_zip_eq_some.1 g1).1
    exact ⟨o, by simpa using this, g2, g3, g4, g5⟩
  · obtain ⟨o, b, g1, g2, _⟩ := h2 i ao hi
    have := (List.getElem?_zip_eq_some.1 g1).2
    rw [g2]; exact this

theorem bef_rel {ops : Array Oper} {bs : List Nat} {l : List AOper} (_hlen : l.length = ops.size) (hl : ∀ (i : Nat) (ao : AOper), l[i]? = some ao → bs[i]? = some ao.bef) (h : befOK bs 0 ops.toList bs = true) : BefRel ops l := by
  have key := fun i o (ho : ops[i]? = some o) => befOK_spec h i o (by simpa using ho)
  refine ⟨fun i o ho e he hb => ?_, fun i o ao ho hao k hk hbit => ?_⟩
  · obtain ⟨b, _, h2⟩ := key i o ho
    simp only [befOK1, Bool.and_eq_true, List.all_eq_true, Bool.or_eq_true, Bool.not_eq_true'] at h2
    rcases h2.1 e (by simpa using he) with h | h
    · rw [show Edge.binds' e = Region.binds .any e from rfl, hb] at h; cases h
    · rw [Nat.zero_add] at h; exact Nat.blt_eq.mp h
  · obtain ⟨b, h1, h2⟩ := key i o ho
    rw [hl i ao hao] at h1; injection h1 with h1; subst h1
    simp only [befOK1, Bool.and_eq_true, List.all_eq_true, Bool.or_eq_true, Bool.not_eq_true', List.mem_range] at h2
    rcases h2.2 k (by omega) with h | h
    · rw [hbit] at h; cases h
    · obtain ⟨e, he, h⟩ := List.any_eq_true.1 h
      simp only [Bool.and_eq_true, Bool.or_eq_true] at h
      refine ⟨e, by simpa using he, h.1, ?_⟩
      rcases h.2 with h | h
      · exact .inl (Nat.eq_of_beq_eq_true h)
      · refine .inr ⟨Nat.blt_eq.mp h.1, fun ao' hao' => ?_⟩
        have := hl _ _ hao'
        rw [List.getD_eq_getElem?_getD, this] at h
        exact h.2

theorem region_ok (hm : P.follows .mixedOrders = true) (hcall : CallOK P call) (hlib : ∀ f T, lib f = some T → IsLib P f T) {X : Cx} {s s' : St} {a : Act} {id : Nat} {ops : Array Oper} {draw : Bool} {l : List AOper} {dr : Bool}
    (hp : regP P lib nt rows ops draw = some (.region l dr)) (hr : runRegion call sh l dr s = some s') (hs : Sim X nt s a) (hdom : ∀ v, s.nv ≤ v → X.ρ v = none) {Q : Exit → Act → World → Prop} (hQ : Post X nt s (.normal, s') Q) : (Code.region id ops draw).wp P Q a X.w := by
  have hs1 : Sim X nt { s with nv := s.nv + l.length } a := ⟨hs.slots, hs.size, hs.defers, hs.mem⟩
  unfold regP at hp
  cases draw with
  | false =>
    simp only at hp
    obtain ⟨l', hl, hp⟩ := opt_map hp
    injection hp with h1 h2; subst h1; subst h2
    have hz : ops.toList.map (fun o => (o, 0)) = ops.toList.zip (List.replicate ops.size 0) := by
      apply List.ext_getElem
      · simp
      · intro i h1 h2; simp
    rw [hz] at hl
    obtain ⟨hrel, _⟩ := opers_rel (by simp) hl
    simp only [runRegion] at hr
    refine wp_region ?_
    rw [← hrel.len, List.range_eq_range']
    refine runOps_ok hcall hlib hrel l' 0 _ s' X a (fun k => by simp) hr hs1 (fun k _ _ => hdom _ (by omega)) (by simp) (fun v hv => hdom v (by simp at hv; omega)) fun Y a' hx hs' hn hd => ?_
    exact hQ Y a' hx hs' (by simp at hn ⊢; omega) hd
  | true =>
    simp only at hp
    split at hp
    · rename_i l' hb hl
      split at hp
      · rename_i hap
        injection hp with hp
        injection hp with h1 h2; subst h1; subst h2
        simp only [Bool.and_eq_true, beq_iff_eq] at hb
        obtain ⟨hrel, hbs⟩ := opers_rel hb.1 hl
        have hbef := bef_rel hrel.len hbs hb.2
        simp only [runRegion] at hr
        obtain ⟨L, rfl, hran⟩ := Ran.of_run hr
        refine wp_region_any hm ?_
        have hf : ∀ j, (Array.replicate ops.size false).getD j false = false := fun j => by
          rw [Array.getD_eq_getD_getElem?]
          rcases Nat.lt_or_ge j ops.size with h | h
          · simp [h]
          · simp [h]
        have hst : (stP { s with nv := s.nv + l'.length } L fun j => (Array.replicate ops.size false).getD j false) = { s with nv := s.nv + l'.length } := by
          unfold stP
          rw [List.filter_eq_nil_iff.2 fun x _ => by show ¬ (Array.replicate ops.size false).getD x.1 false = true; rw [hf]; exact Bool.false_ne_true]
          rfl
        refine any_ok hcall hlib hrel hbef hap hran ops.size _ { X with w := X.w.drew } a (by simp) ?_ (fun j o _ hj => absurd ((hf j).symm.trans hj) (by decide)) ?_ (fun k _ _ => hdom _ (by omega)) ?_ ?_ fun Y a' hx hs' hn hd => ?_
        · exact Nat.le_trans List.countP_le_length (by simp)
        · rw [hst]; exact hs1.drew
        · rw [hst]; simp [hrel.len]
        · rw [hst]; exact fun v hv => hdom v (by simp at hv; omega)
        · rw [hst] at hn
          exact hQ Y a' ((Ext.drew X).trans hx) hs' (by simp at hn ⊢; omega) hd
      · cases hp
    · cases hp

/-- a loop, seen from its body on -/
def LoopAt (P : Program) (c : Code) (Q : Exit → Act → World → Prop) (a : Act) (w : World) : Prop :=
  ∀ (b : Frame) (k : List Item) (cs : List Frame), ∃ e a' w', Q e a' w' ∧ Arrives P (lone (b.at a (.code c :: .inLoop c :: k)) cs w) b k cs e a' w'
theorem LoopAt.round {c : Code} {Q : Exit → Act → World → Prop} {a : Act} {w : World} (h : c.wp P (Exit.then (LoopAt P c Q) Q) a w) : LoopAt P c Q a w := by
  intro b k cs
  obtain ⟨e, a₁, w₁, hq, harr⟩ := h b (.inLoop c :: k) cs
  cases e with
  | normal =>
    obtain ⟨e₂, a₂, w₂, hq₂, harr₂⟩ := hq b k cs
    exact ⟨e₂, a₂, w₂, hq₂, .of_steps (Steps.trans harr (.one step_inLoop)) harr₂⟩
  | exit id => exact ⟨_, a₁, w₁, hq, .pass (x := .inLoop c) rfl (fun _ _ => .inl (by simp)) harr⟩
  | goto l => exact ⟨_, a₁, w₁, hq, .pass (x := .inLoop c) rfl (fun _ _ => .inl (by simp)) harr⟩
  | ret => exact ⟨_, a₁, w₁, hq, .pass (x := .inLoop c) rfl (fun _ _ => .inl (by simp)) harr⟩
  | panic ch => exact ⟨_, a₁, w₁, hq, .pass (x := .inLoop c) rfl (fun _ _ => .inl (by simp)) harr⟩
  | outgrown => exact ⟨_, a₁, w₁, hq, .pass (x := .inLoop c) rfl (fun _ _ => .inl (by simp)) harr⟩
theorem LoopAt.wp {c : Code} {Q : Exit → Act → World → Prop} {a : Act} {w : World} (h : LoopAt P c Q a w) : (Code.loop c).wp P Q a w := fun b k cs =>
  let ⟨e, a', w', hq, harr⟩ := h b k cs
  ⟨e, a', w', hq, .of_steps (.one step_loop) harr⟩

theorem exec_ok (hm : P.follows .mixedOrders = true) (hcall : CallOK P call) (hlib : ∀ f T, lib f = some T → IsLib P f T) : ∀ (n : Nat),
    (∀ (c : Code) (ac : AC) (X : Cx) (s : St) (a : Act) (r : AX × St) (Q : Exit → Act → World → Prop), codeP P lib nt rows c = some ac → exec call sh n ac s = some r → Sim X nt s a → (∀ v, s.nv ≤ v → X.ρ v = none) → Post X nt s r Q → c.wp P Q a X.w) ∧
    (∀ (c : Code) (ac : AC) (X : Cx) (s : St) (a : Act) (r : AX × St) (Q : Exit → Act → World → Prop), codeP P lib nt rows c = some ac → exec call sh n (.loop ac) s = some r → Sim X nt s a → (∀ v, s.nv ≤ v → X.ρ v = none) → Post X nt s r Q → LoopAt P c Q a X.w) := by
  intro n
  induction n with
  | zero => exact ⟨fun _ _ _ _ _ _ _ _ h => by simp [exec] at h, fun _ _ _ _ _ _ _ _ h => by simp [exec] at h⟩
  | succ n ih =>
    obtain ⟨ihA, ihB⟩ := ih
    have B : ∀ (c : Code) (ac : AC) (X : Cx) (s : St) (a : Act) (r : AX × St) (Q : Exit → Act → World → Prop), codeP P lib nt rows c = some ac → exec call sh (n + 1) (.loop ac) s = some r → Sim X nt s a → (∀ v, s.nv ≤ v → X.ρ v = none) → Post X nt s r Q → LoopAt P c Q a X.w := by
      intro c ac X s a r Q hc hr hs hdom hQ
      simp only [exec] at hr
      refine LoopAt.round ?_
      split at hr
      · rename_i s' he
        refine ihA c ac X s a (.normal, s') _ hc he hs hdom fun Y a' hx hs' hn hd => ?_
        exact ihB c ac Y s' a' r Q hc hr hs' (dom_step hdom hn hd) (hQ.trans hx hn hd)
      · rename_i hne
        refine ihA c ac X s a r _ hc hr hs hdom fun Y a' hx hs' hn hd => ?_
        have := hQ Y a' hx hs' hn hd
        obtain ⟨x, s'⟩ := r
        cases x with
        | normal => exact absurd hr (hne s')
        | exit id => exact this
        | ret => exact this
    refine ⟨fun c ac X s a r Q hc hr hs hdom hQ => ?_, B⟩
    cases c with
    | skip =>
      simp only [codeP, Option.some.injEq] at hc
      subst hc
      simp only [exec, Option.some.injEq] at hr
      subst hr
      exact wp_skip (hQ.now hs)
    | region id ops draw =>
      simp only [codeP] at hc
      have : ∃ l dr, ac = .region l dr := by
        unfold regP at hc
        split at hc
        · obtain ⟨l, _, rfl⟩ := opt_map hc; exact ⟨_, _, rfl⟩
        · simp only at hc
          split at hc
          · split at hc
            · injection hc with hc; exact ⟨_, _, hc.symm⟩
            · cases hc
          · cases hc
      obtain ⟨l, dr, rfl⟩ := this
      simp only [exec] at hr
      obtain ⟨s', hr', rfl⟩ := opt_map hr
      exact region_ok hm hcall hlib hc hr' hs hdom hQ
    | seq x y =>
      simp only [codeP] at hc
      split at hc
      · rename_i ax ay hx hy
        injection hc with hc; subst hc
        simp only [exec] at hr
        refine wp_seq ?_
        split at hr
        · rename_i s' he
          refine ihA x ax X s a (.normal, s') _ hx he hs hdom fun Y a' hx' hs' hn hd => ?_
          exact ihA y ay Y s' a' r Q hy hr hs' (dom_step hdom hn hd) (hQ.trans hx' hn hd)
        · rename_i hne
          refine ihA x ax X s a r _ hx hr hs hdom fun Y a' hx' hs' hn hd => ?_
          have := hQ Y a' hx' hs' hn hd
          obtain ⟨z, s'⟩ := r
          cases z with
          | normal => exact absurd hr (hne s')
          | exit id => exact this
          | ret => exact this
      · cases hc
    | cond c x y =>
      simp only [codeP] at hc
      split at hc
      · rename_i c' ax ay hc' hx hy
        injection hc with hc; subst hc
        simp only [exec] at hr
        have hv := opd_ok hs hc'
        split at hr
        · rename_i hb
          exact wp_cond_true (boolOfA_ok hb hv) (ihA x ax X s a r Q hx hr hs hdom hQ)
        · rename_i hb
          exact wp_cond_false (boolOfA_ok hb hv) (ihA y ay X s a r Q hy hr hs hdom hQ)
        · cases hr
      · cases hc
    | block id c =>
      simp only [codeP] at hc
      obtain ⟨ac', hc', rfl⟩ := opt_map hc
      simp only [exec] at hr
      refine wp_block ?_
      split at hr
      · rename_i id' s' he
        split at hr
        · rename_i hid
          injection hr with hr; subst hr
          refine ihA c ac' X s a (.exit id', s') _ hc' he hs hdom fun Y a' hx' hs' hn hd => ?_
          have := hQ Y a' hx' hs' hn hd
          simp only [AX.exit', Exit.inBlock, Nat.eq_of_beq_eq_true hid, if_true]
          exact this
        · rename_i hid
          injection hr with hr; subst hr
          refine ihA c ac' X s a (.exit id', s') _ hc' he hs hdom fun Y a' hx' hs' hn hd => ?_
          have := hQ Y a' hx' hs' hn hd
          simp only [AX.exit', Exit.inBlock, Nat.ne_of_beq_eq_false hid, if_false]
          exact this
      · rename_i hne
        refine ihA c ac' X s a r _ hc' hr hs hdom fun Y a' hx' hs' hn hd => ?_
        have := hQ Y a' hx' hs' hn hd
        obtain ⟨z, s'⟩ := r
        cases z with
        | normal => exact this
        | exit id => exact absurd hr (hne id s')
        | ret => exact this
    | loop c =>
      simp only [codeP] at hc
      obtain ⟨ac', hc', rfl⟩ := opt_map hc
      exact (B c ac' X s a r Q hc' hr hs hdom hQ).wp
    | exit id =>
      simp only [codeP, Option.some.injEq] at hc
      subst hc
      simp only [exec, Option.some.injEq] at hr
      subst hr
      exact wp_exit (hQ.now hs)
    | ret =>
      simp only [codeP, Option.some.injEq] at hc
      subst hc
      simp only [exec, Option.some.injEq] at hr
      subst hr
      exact wp_ret (hQ.now hs)
    | _ => simp [codeP] at hc
end
end Go.Eng
