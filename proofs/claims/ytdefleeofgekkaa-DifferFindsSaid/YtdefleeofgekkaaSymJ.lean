/- The machine over typed data: calls. -/
import Derived.Test.YtdefleeofgekkaaSymI
namespace Go.Sym
open Go Go.Eng

def shF (Fs : Nat → Option AFn) : Nat → Bool := fun g => ((Fs g).map (·.sh)).getD false
/-- the code comes to an end, however much fuel there is beyond some -/
def Ev (Fs : Nat → Option AFn) (c : AC) (s : St) (x : AX × St) : Prop := ∃ n0, ∀ k n, n0 ≤ k → n0 ≤ n → exec (runF Fs k) (shF Fs) n c s = some x

def WkOK (Fs : Nat → Option AFn) (wk : Wk) : Prop :=
  ∀ (α : Type) (ctx i : Nat) (c : AC) (s2 : S2) (K : AX → S2 → Option α) (r : α), wk α ctx i c s2 K = some r → ∀ (ρ : VMap) (os : List (Tr AV)) (s : St), SR' ρ os s2 s →
    ∃ ax s2' ρ' s', Ev Fs c s (ax, s') ∧ SR' ρ' os s2' s' ∧ Fr ρ s2.nv s.nv ρ' s2'.nv ∧ s.nv ≤ s'.nv ∧ K ax s2' = some r

/-- the row that was brought is known here -/
def RowFit (ρ : VMap) (B : Nat) (m : List (Tr E2)) (lv sl ver p : Nat) (us : List SL) : Prop := ver < B ∧ ρ ver = some p ∧ ∀ u ∈ us, ∀ r, rowOf m lv sl ver = some r → r.l.length = u.l.length
def CalOK (Fs : Nat → Option AFn) (f : Nat) (c : Callee) : Prop :=
  ∀ a y, c.F a = some y → ∃ vs, fillP c.args (unpack c.ta a) = some (vs, []) ∧ ∀ as, All2 (RV ρ0 0 []) vs as → ∃ n0 rv cm ts nv, (∀ n, n0 ≤ n → runF Fs n f as [.lf] .lf 0 = some (rv, cm, ts, nv)) ∧
    ∀ ws, fillR c.res (unpack c.tr y) = some (ws, []) → (∀ w, tup2 ws = some w → ∀ lv sl nvi, ∃ a', impR cm 0 0 lv sl nvi rv = some (a', []) ∧ ∀ ρ B m, RV ρ B m w a') ∧
      ∀ row lv sl ver p ws' us w, c.rk ≠ 0 → row % 65536 = c.rk → row / 65536 ≠ 0 → pickR c.rk lv sl ver 1 ws = some (ws', us) → (∀ u ∈ us, row / 65536 = u.t.size) → tup2 ws' = some w →
        ∃ a', impR cm 0 row lv sl p rv = some (a', us.map fun u => encL u.t u.l) ∧ ∀ ρ B m, RowFit ρ B m lv sl ver p us → RV ρ B m w a'

def LoopOK (Fs : Nat → Option AFn) (c : AC) (L : LoopSpec) : Prop :=
  ∀ x y, L.F x = some y → ∀ s2, L.T.st (unpack L.T.tys x) = some s2 → ∀ ρ os s, SR' ρ os s2 s →
    ∃ ax s2' ρ' s', Ev Fs (.loop c) s (ax, s') ∧ SR' ρ' os s2' s' ∧ Fr ρ s2.nv s.nv ρ' s2'.nv ∧ s.nv ≤ s'.nv ∧ ∀ {α : Type} (K : AX → S2 → Option α), outsK L.outs y K = K ax s2'

structure EnvOK (Fs : Nat → Option AFn) (E : SEnv) : Prop where
  fns : E.fns = Fs
  cal : ∀ f c, E.cal f = some c → CalOK Fs f c
  loops : ∀ ctx i c L, E.loops ctx i c = some L → LoopOK Fs c L

/-- a state in the middle of a region: 'rem' operations are left, the next one's version is nx here, p there -/
structure RI (ρ : VMap) (nx rem : Nat) (os : List (Tr AV)) (s2 : S2) (s : St) (p : Nat) : Prop where
  slots : SlR ρ nx s2.mem s2.slots s.slots
  outer : All2 (SlR ρ nx s2.mem) s2.outer os
  mem : MR ρ nx s2.mem s.mem
  tips : TR ρ nx s2.tips s.tips
  ver : VOK ρ s2.nv s.nv
  pend : ∀ j, j < rem → ρ (nx + j) = some (p + j)
  nv : nx + rem = s2.nv
  pn : p + rem ≤ s.nv

def ResOK (ρ : VMap) (nx : Nat) (os : List (Tr AV)) (s2 : S2) (s : St) : Res2 → Res → Prop
  | .eff E, .eff e => EffOK ρ nx (nx + 1) s2 s E e
  | .all v s2', .all a m t n => ∃ ρ', SR' ρ' os s2' { slots := s.slots, mem := m, tips := t, nv := n } ∧ RV ρ' s2'.nv s2'.mem v a ∧ Fr ρ nx s.nv ρ' s2'.nv ∧ s.nv ≤ n
  | _, _ => False

section
variable {Fs : Nat → Option AFn} {E : SEnv} {wk : Wk} {α : Type} {ρ : VMap} {nx rem p : Nat} {os : List (Tr AV)} {s2 : S2} {s : St} {ctx row d : Nat} {K : Res2 → Option α} {r : α}

theorem argSlots2_get : ∀ (l : List V2) (i : Nat) (t : Tr V2) (k : Nat), (argSlots2 i l t).get? k = if h : i ≤ k ∧ k < i + l.length then some (l[k - i]'(by omega)) else t.get? k
  | [], i, t, k => by rw [dif_neg (by simp)]; rfl
  | x :: r, i, t, k => by
    rw [argSlots2, argSlots2_get r (i + 1)]
    by_cases h1 : i + 1 ≤ k ∧ k < i + 1 + r.length
    · rw [dif_pos h1, dif_pos (by simp; omega)]
      have : k - i = (k - (i + 1)) + 1 := by omega
      simp only [this, List.getElem_cons_succ]
    · rw [dif_neg h1]
      by_cases h2 : k = i
      · subst h2
        rw [dif_pos (by simp)]
        simp [Tr.get_set]
      · rw [dif_neg (by simp; omega)]
        rw [Tr.get_set, if_neg (Ne.symm h2)]
theorem argSlots_rel {B : Nat} {m : List (Tr E2)} {vs : List V2} {as : List AV} (h : All2 (RV ρ B m) vs as) : SlR ρ B m (argSlots2 0 vs .lf) (argSlots 0 as .lf) := by
  intro k v hk
  rw [argSlots2_get] at hk
  rw [argSlots_get]
  split at hk
  · rename_i hc
    injection hk with hk; subst hk
    rw [dif_pos (by rw [← h.length]; exact hc)]
    obtain ⟨b, hb, hr⟩ := h.get (k - 0) _ (List.getElem?_eq_getElem (by omega))
    rw [List.getElem?_eq_getElem (by rw [← h.length]; omega)] at hb
    injection hb with hb; subst hb
    exact hr
  · simp at hk

theorem mget_snoc {m : List (Tr E2)} {lv sl : Nat} : mget (m ++ [.lf]) lv sl = mget m lv sl := by
  unfold mget
  rcases Nat.lt_trichotomy lv m.length with h | h | h
  · rw [List.getElem?_append_left h]
  · subst h; simp
  · rw [List.getElem?_eq_none (by simp; omega), List.getElem?_eq_none (by omega)]
theorem memGet_snoc {m : List (Tr Ent)} {lv sl : Nat} : memGet (m ++ [.lf]) lv sl = memGet m lv sl := by
  unfold memGet
  rcases Nat.lt_trichotomy lv m.length with h | h | h
  · rw [List.getElem?_append_left h]
  · subst h; simp
  · rw [List.getElem?_eq_none (by simp; omega), List.getElem?_eq_none (by omega)]
theorem rowOf_snoc {m : List (Tr E2)} {lv sl ver : Nat} : rowOf (m ++ [.lf]) lv sl ver = rowOf m lv sl ver := by
  unfold rowOf; rw [mget_snoc]
theorem stab_snoc {B : Nat} {m : List (Tr E2)} : Stab B m (m ++ [.lf]) := fun _ _ _ r _ h => ⟨r, by rw [rowOf_snoc] at h; exact h, rfl⟩
theorem mget_take {m : List (Tr E2)} {k lv sl : Nat} {e : E2} (h : mget (m.take k) lv sl = some e) : lv < k ∧ mget m lv sl = some e := by
  unfold mget at h ⊢
  rw [List.getElem?_take] at h
  split at h
  · exact ⟨by assumption, h⟩
  · cases h
theorem memGet_take {m : List (Tr Ent)} {k lv sl : Nat} (h : lv < k) : memGet (m.take k) lv sl = memGet m lv sl := by
  unfold memGet
  rw [List.getElem?_take, if_pos h]
theorem stab_take {B k : Nat} {m : List (Tr E2)} : Stab B m (m.take k) := fun _ _ _ r _ h => ⟨r, rowOf_iff.2 (mget_take (rowOf_some h)).2, rfl⟩
theorem MR.take {B k : Nat} {m2 : List (Tr E2)} {m : List (Tr Ent)} (h : MR ρ B m2 m) : MR ρ B (m2.take k) (m.take k) := by
  refine ⟨by simp [h.len], fun lv sl e2 he => ?_⟩
  obtain ⟨h1, h2⟩ := mget_take he
  obtain ⟨e, h3, h4⟩ := h.ents lv sl e2 h2
  exact ⟨e, by rw [memGet_take h1]; exact h3, RE.mono (Nat.le_refl _) (fun _ _ => rfl) (fun _ _ => RC.move stab_take (Nat.le_refl _) fun _ _ => rfl) h4⟩
theorem MR.snoc {B : Nat} {m2 : List (Tr E2)} {m : List (Tr Ent)} (h : MR ρ B m2 m) : MR ρ B (m2 ++ [.lf]) (m ++ [.lf]) := by
  refine ⟨by simp [h.len], fun lv sl e2 he => ?_⟩
  rw [mget_snoc] at he
  obtain ⟨e, h3, h4⟩ := h.ents lv sl e2 he
  exact ⟨e, by rw [memGet_snoc]; exact h3, RE.mono (Nat.le_refl _) (fun _ _ => rfl) (fun _ _ => RC.move stab_snoc (Nat.le_refl _) fun _ _ => rfl) h4⟩
theorem MR.ren {ρ' : VMap} {B : Nat} {m2 : List (Tr E2)} {m : List (Tr Ent)} (h : MR ρ B m2 m) (hρ : ∀ v, v < B → ρ' v = ρ v) : MR ρ' B m2 m := by
  refine ⟨h.len, fun lv sl e2 he => ?_⟩
  obtain ⟨e, h3, h4⟩ := h.ents lv sl e2 he
  exact ⟨e, h3, RE.mono (Nat.le_refl _) hρ (fun _ _ => RC.move (Stab.refl _ _) (Nat.le_refl _) hρ) h4⟩
theorem all_notTup {B : Nat} {m : List (Tr E2)} : ∀ {vs : List V2} {as : List AV}, vs.all V2.noTup = true → All2 (RV ρ B m) vs as → as.all notTup = true
  | [], [], _, _ => rfl
  | v :: vs, a :: as, h, ha => by
    rw [List.all_cons, Bool.and_eq_true] at h
    rw [List.all_cons, all_notTup h.2 ha.2, Bool.and_true]
    cases v with
    | c x => exact (RC.cell ha.1).2.2
    | agg cs => obtain ⟨as', e, _⟩ := ha.1; rw [e]; rfl
    | clo f cs => obtain ⟨as', e, _⟩ := ha.1; rw [e]; rfl
    | tup vs => cases h.1
  | [], _ :: _, _, h => h.elim
  | _ :: _, [], _, h => h.elim
theorem all2_slr_mono {ρ' : VMap} {B B' : Nat} {m m' : List (Tr E2)} (hs : Stab B m m') (hB : B ≤ B') (hρ : ∀ v, v < B → ρ' v = ρ v) {ts : List (Tr V2)} (h : All2 (SlR ρ B m) ts os) : All2 (SlR ρ' B' m') ts os :=
  h.mono fun _ _ => SlR.move hs hB hρ

theorem callK_ok (hwk : WkOK Fs wk) (hE : EnvOK Fs E) (hi : RI ρ nx rem os s2 s p) (hrem : 0 < rem) {f : Nat} {vs : List V2} {as : List AV} (h : callK E wk ctx s2 row d nx f vs K = some r) (has : All2 (RV ρ nx s2.mem) vs as) :
    ∃ r2 e, (∃ n0, ∀ n, n0 ≤ n → doCall (runF Fs n) (shF Fs f) row s (s.mem.length - 1) d p f as = some e) ∧ ResOK ρ nx os s2 s r2 e ∧ K r2 = some r := by
  unfold callK at h
  split at h
  · rename_i fn hf
    rw [hE.fns] at hf
    have hsh : shF Fs f = fn.sh := by simp [shF, hf]
    split at h
    · rename_i hfs
      rw [hfs] at hsh
      obtain ⟨c, hc, h⟩ := optK_some h
      obtain ⟨⟨ds, ks, bs⟩, ha, h⟩ := optK_some h
      obtain ⟨x, hx, h⟩ := optK_some h
      obtain ⟨hb, h⟩ := chkAll_some h
      obtain ⟨y, hy, h⟩ := bind_some h
      split at h
      · rename_i ws hws
        obtain ⟨as', vs', g1, g2, g3⟩ := args2_ok hi.mem ha has hb
        obtain ⟨vs1, g4, g5⟩ := hE.cal f c hc x y hy
        rw [unpack_pack hx] at g4
        have g2' := g2 []
        rw [List.append_nil, g4] at g2'
        injection g2' with g2'; injection g2' with g2' _; subst g2'
        obtain ⟨n0, rv, cm, ts, nv, g6, g7⟩ := g5 as' g3
        obtain ⟨g7, g7'⟩ := g7 ws hws
        have hkeys : ∀ {vs : List V2} {as : List AV}, All2 (RV ρ nx s2.mem) vs as → KeysR ρ (vs.flatMap keyV) (as.flatMap keysIn) := by
          intro vs
          induction vs with
          | nil => intro as h; match as, h with | [], _ => exact KeysR.nil
          | cons v vs ih =>
            intro as h
            match as, h with
            | a :: as, h =>
              simp only [List.flatMap_cons]
              exact (keyV_ok h.1).append (ih h.2)
        split at h
        · rename_i hrow
          have hrow := Nat.eq_of_beq_eq_true hrow
          obtain ⟨w, hw, h⟩ := optK_some h
          obtain ⟨a', g8, g9⟩ := g7 w hw (s.mem.length - 1) d p
          refine ⟨_, .eff { val := a', upd := frees s.mem ks ++ [], tip := [], rd := as.flatMap keysIn }, ⟨n0, fun n hn => ?_⟩, ?_, h⟩
          · rw [hsh, hrow]
            simp only [doCall, g1, g6 n hn, g8, rowUpd]
          · rw [List.append_nil]
            exact .of_mem hi.mem hi.tips (by omega) (stab_frees (ks := ks)) updR_frees (g9 _ _ _) (hkeys has)
        · split at h
          · rename_i ws' u hq hp
            rw [Bool.and_eq_true, Bool.and_eq_true] at hq
            obtain ⟨⟨hq1, hq2⟩, hq3⟩ := hq
            have hq1 := Nat.eq_of_beq_eq_true hq1
            have hq2 : c.rk ≠ 0 := by intro e; rw [e] at hq2; cases hq2
            have hq3 : row / 65536 ≠ 0 := by intro e; rw [e] at hq3; cases hq3
            split at h
            · rename_i hsz
              have hsz := Nat.eq_of_beq_eq_true hsz
              obtain ⟨w, hw, h⟩ := optK_some h
              obtain ⟨a', g8, g9⟩ := g7' row (s2.mem.length - 1) d nx p ws' [u] w hq2 hq1 hq3 hp (fun v hv => by rw [List.mem_singleton.1 hv]; exact hsz) hw
              rw [hi.mem.len] at g8
              refine ⟨_, .eff { val := a', upd := frees s.mem ks ++ [(s.mem.length - 1, d, some (.row p (encL u.t u.l)))], tip := [], rd := as.flatMap keysIn }, ⟨n0, fun n hn => ?_⟩, ?_, h⟩
              · rw [hsh]
                simp only [doCall, g1, g6 n hn, g8, rowUpd, List.map_cons, List.map_nil]
              · have hnx : ρ nx = some p := hi.pend 0 hrem
                rw [← hi.mem.len]
                refine .of_mem hi.mem hi.tips (B' := nx + 1) (by omega) (stab_new (.inl (Nat.le_refl _))) (updR_frees.append (updR_one ⟨by omega, p, hnx, rfl⟩)) (g9 _ _ _ ⟨by omega, hnx, fun v hv r' hr' => ?_⟩) (hkeys has)
                rw [List.mem_singleton.1 hv]
                rw [updM_append] at hr'
                simp only [updM] at hr'
                have := rowOf_some hr'
                rw [mget_mset] at this
                split at this
                · injection this with this
                  injection this with _ h1 h2
                  obtain ⟨t', l'⟩ := r'
                  simp only at h1 h2
                  subst h1
                  cases h2
                  rfl
                · have h1 := rowOf_frees (rowOf_iff.2 this)
                  obtain ⟨e, _, hlt, _⟩ := hi.mem.ents _ _ _ (rowOf_some h1)
                  omega
            · cases h
          · cases h
      · cases h
    · rename_i hfs
      rw [hfs] at hsh
      split at h
      · cases h
      · rename_i hnp
        rw [Bool.and_eq_true, Bool.and_eq_true] at hnp
        obtain ⟨hrow, hnp, hnt⟩ := hnp
        have hrow := Nat.eq_of_beq_eq_true hrow
        subst hrow
        have hnt := all_notTup hnt has
        -- the state in which the function starts
        let ρc : VMap := fun v => if v < nx then ρ v else some (s.nv + (v - nx))
        have hρc : ∀ v, v < nx → ρc v = ρ v := fun v hv => if_pos hv
        have hle : nx ≤ s2.nv := by have := hi.nv; omega
        have start : SR' ρc (s.slots :: os) { slots := argSlots2 0 vs .lf, outer := loose s2.slots :: s2.outer, mem := s2.mem ++ [.lf], tips := s2.tips, nv := nx } { slots := argSlots 0 as .lf, mem := s.mem ++ [.lf], tips := s.tips, nv := s.nv } := by
          refine ⟨?_, ⟨?_, ?_⟩, ?_, ?_, ?_, Nat.le_refl _⟩
          · exact argSlots_rel (has.mono fun _ _ => RV.move stab_snoc (Nat.le_refl _) hρc)
          · exact fun k v hk => (hi.slots k v (loose_get _ _ _ hk)).move stab_snoc (Nat.le_refl _) hρc
          · exact all2_slr_mono stab_snoc (Nat.le_refl _) hρc hi.outer
          · exact (hi.mem.ren hρc).snoc
          · intro v hv
            obtain ⟨h1, h2⟩ := hi.tips v hv
            exact ⟨h1, fun u hu => h2 u (by rw [← hρc v h1]; exact hu)⟩
          · refine ⟨fun v u hv hu => ?_, fun v hv => ?_, fun v v' u hu hu' => ?_⟩
            · have hv : v < nx := hv
              rw [hρc v hv] at hu
              exact hi.ver.low v u (by omega) hu
            · have hv : nx ≤ v := hv
              show ρc v = _
              simp only [ρc]
              rw [if_neg (by omega)]
            · simp only [ρc] at hu hu'
              split at hu
              · split at hu'
                · exact hi.ver.inj v v' u hu hu'
                · injection hu' with hu'
                  have := hi.ver.low v u (by omega) hu
                  omega
              · injection hu with hu
                split at hu'
                · have := hi.ver.low v' u (by omega) hu'
                  omega
                · injection hu' with hu'
                  omega
        -- what comes of it
        have fin : ∀ (ax : AX) (t2 : S2) (ρ' : VMap) (t : St), (∀ id, ax ≠ .exit id) → Ev Fs fn.body { slots := argSlots 0 as .lf, mem := s.mem ++ [.lf], tips := s.tips, nv := s.nv } (ax, t) → SR' ρ' (s.slots :: os) t2 t → Fr ρc nx s.nv ρ' t2.nv → s.nv ≤ t.nv →
            (match t2.outer with
            | o :: os' => ressK t2 fn.res fun vs => optK (imp2r t2.mem s2.mem.length vs) fun vs => optK (tup2 vs) fun v =>
              K (.all v { slots := merge s2.slots o, outer := os', mem := t2.mem.take s2.mem.length, tips := t2.tips, nv := t2.nv })
            | [] => none) = some r → ∃ r2 e, (∃ n0, ∀ n, n0 ≤ n → doCall (runF Fs n) (shF Fs f) 0 s (s.mem.length - 1) d p f as = some e) ∧ ResOK ρ nx os s2 s r2 e ∧ K r2 = some r := by
          intro ax t2 ρ' t hax hev hsr hfr hnv hk
          have hout := hsr.outer
          split at hk
          · rename_i o os' ho
            rw [ho] at hout
            obtain ⟨vs1, as1, q1, q2, hk⟩ := ressK_ok hsr.mem hsr.slots hk
            obtain ⟨vs2, q3, hk⟩ := optK_some hk
            obtain ⟨v, q4, hk⟩ := optK_some hk
            obtain ⟨a', q5, q6⟩ := impR_ok hsr.mem (lv := s.mem.length - 1) (sl := d) (ver := p) q3 q4 q2
            obtain ⟨n0, hev⟩ := hev
            refine ⟨_, .all a' (applyUpd (t.mem.take s.mem.length) []) t.tips t.nv, ⟨n0 + 1, fun n hn => ?_⟩, ?_, hk⟩
            · obtain ⟨n, rfl⟩ : ∃ k, n = k + 1 := ⟨n - 1, by omega⟩
              have hrun : runF Fs (n + 1) f as (s.mem ++ [.lf]) s.tips s.nv = some (tupOf as1, t.mem, t.tips, t.nv) := by
                simp only [runF, hf]
                rw [← has.length]
                simp only [hnp]
                have := hev n n (by omega) (by omega)
                unfold shF at this
                rw [this]
                cases ax with
                | normal => simp only [q1, Option.map_some]
                | ret => simp only [q1, Option.map_some]
                | exit id => exact absurd rfl (hax id)
              rw [hsh]
              simp only [doCall, hnt, hrun]
              rw [hi.mem.len] at q5
              rw [q5]
              simp only [rowUpd]
            · refine ⟨ρ', ⟨?_, ?_, ?_, ?_, hsr.ver, Nat.le_refl _⟩, ?_, ?_, hnv⟩
              · intro k v hk
                rcases merge_get _ _ _ _ hk with ⟨h1, h2⟩ | h1
                · exact (hi.slots k v h1).still h2
                · exact (hout.1 k v h1).move stab_take (Nat.le_refl _) fun _ _ => rfl
              · exact all2_slr_mono stab_take (Nat.le_refl _) (fun _ _ => rfl) hout.2
              · have := hsr.mem.take (k := s2.mem.length)
                rw [hi.mem.len] at this ⊢
                exact this
              · exact hsr.tips
              · exact q6
              · intro v u hv hu
                rcases hfr v u hv hu with ⟨w, hw, hwu⟩ | h'
                · exact .inl ⟨w, hw, by rw [← hρc w hw]; exact hwu⟩
                · exact .inr h'
          · cases hk
        dsimp only at h
        split at h
        · obtain ⟨ax, t2, ρ', t, g1, g2, g3, g4, g5⟩ := hwk _ _ _ _ _ _ _ h _ _ _ start
          cases ax with
          | exit id => cases g5
          | normal => exact fin .normal t2 ρ' t (fun _ h => by cases h) g1 g2 g3 g4 g5
          | ret => exact fin .ret t2 ρ' t (fun _ h => by cases h) g1 g2 g3 g4 g5
        · rename_i outs ho
          obtain ⟨y, hy, h⟩ := bind_some h
          obtain ⟨ax, t2, ρ', t, g1, g2, g3, g4, g5⟩ := hwk _ _ _ _ _ _ _ hy _ _ _ start
          have hax : ∀ id, ax ≠ .exit id := by
            intro id e
            subst e
            cases g5
          have g5 : outsG outs .ret t2 = some y := by
            cases ax with
            | exit id => cases g5
            | normal => exact g5
            | ret => exact g5
          obtain ⟨t3, ρ'', g6, g7, g8⟩ := outs_ok g2 g5
          rw [g8] at h
          exact fin ax t3 ρ'' t hax g1 g6 (g3.trans g7 g4) g4 h
  · cases h
end
end Go.Sym
