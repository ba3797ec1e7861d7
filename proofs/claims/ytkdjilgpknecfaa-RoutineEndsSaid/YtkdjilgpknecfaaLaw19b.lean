/- The routine layer: waking. -/
import Derived.Test.YtkdjilgpknecfaaLaw19
namespace Go.Proofs.Ytkdjilgpknecfaa
open Go Go.Eng Go.Sym

theorem alive_ok : F16 100 () = some true := by kernel_rfl

def waits (key : Int) (x : Routine) : Prop := x.1 = 2 ∧ x.2.2.2.2.2 = key
instance (key : Int) (x : Routine) : Decidable (waits key x) := inferInstanceAs (Decidable (_ ∧ _))
/-- the first one that waits -/
def fi (key : Int) : List Routine → Option Nat
  | [] => none
  | x :: r => if waits key x then some 0 else (fi key r).map (· + 1)
def wakeR (x : Routine) : Routine := (1, x.2.1, x.2.2.1, x.2.2.2.1, x.2.2.2.2.1, 0)
def wokenL (key : Int) (l : List Routine) : List Routine := match fi key l with
  | some n => l.modify n wakeR
  | none => l
def who (o : Option Nat) : Int := match o with
  | some n => n
  | none => -1

theorem fi_append (key : Int) : ∀ (a b : List Routine), fi key (a ++ b) = match fi key a with
    | some n => some n
    | none => (fi key b).map (· + a.length)
  | [], b => by simp [fi]
  | x :: a, b => by
    simp only [List.cons_append, fi]
    split
    · rfl
    · rw [fi_append key a b]
      cases fi key a with
      | some n => rfl
      | none =>
        cases fi key b with
        | none => rfl
        | some m => simp; omega
theorem fi_lt (key : Int) : ∀ {l : List Routine} {n : Nat}, fi key l = some n → n < l.length ∧ ∃ x, l[n]? = some x ∧ waits key x
  | [], n, h => by cases h
  | x :: r, n, h => by
    simp only [fi] at h
    split at h
    · injection h with h; subst h; exact ⟨by simp, x, rfl, by assumption⟩
    · cases hf : fi key r with
      | none => rw [hf] at h; cases h
      | some m =>
        rw [hf] at h
        injection h with h; subst h
        obtain ⟨h1, y, h2, h3⟩ := fi_lt key hf
        exact ⟨by simp; omega, y, by simpa using h2, h3⟩

theorem getElem?_mid {α : Type} {l pre : List α} {x : α} {r : List α} (hl : l = pre ++ x :: r) : l[pre.length]? = some x := by
  subst hl; simp
theorem inR_mid {n m : Nat} (h : n < m) : inR (n : Int) m = true := by simp [inR, h]

theorem loop17 (N : Nat) (key : Int) : ∀ (r pre : List Routine) (k : Nat) (l : List Routine), l = pre ++ r → l.length ≤ 50 → r.length < k → f17.L1019000_3 N k ((l.length : Int), (pre.length : Int), l, key) = some (match fi key r with
    | some n => .inl (((n + pre.length : Nat) : Int), l)
    | none => .inr l)
  | [], pre, k + 1, l, hl, hn, _ => by
    rw [f17.L1019000_3_succ]
    subst hl
    simp [fi]
  | x :: r, pre, k + 1, l, hl, hn, hk => by
    rw [f17.L1019000_3_succ]
    have hlen : l.length = pre.length + (r.length + 1) := by subst hl; simp
    have h1 : (pre.length : Int) < (l.length : Int) := by omega
    rw [decide_eq_true h1, cond_true, chk_of (inR_mid (by omega)), Int.toNat_natCast, getElem?_mid hl, Option.bind_some]
    have e1 : wi64 ((pre.length : Int) + 1) = ((pre ++ [x]).length : Int) := by rw [wi64_in (by omega)]; simp
    rw [e1]
    have rec_ := loop17 N key r (pre ++ [x]) k l (by subst hl; simp) hn (by simp at hk; omega)
    have step : (fi key r).map (· + 1) = fi key (x :: r) ∨ waits key x := by
      by_cases hw : waits key x
      · exact .inr hw
      · left; simp [fi, hw]
    by_cases h2 : x.1 = 2
    · by_cases h3 : x.2.2.2.2.2 = key
      · have hw : waits key x := ⟨h2, h3⟩
        simp [h2, h3, fi, hw]
      · have hw : ¬ waits key x := fun h => h3 h.2
        rw [show (x.1 == 2) = true from by simpa using h2, cond_true, show (x.2.2.2.2.2 == key) = false from by simpa using h3, cond_false, rec_]
        simp only [fi, hw, if_false]
        cases fi key r with
        | none => rfl
        | some n => simp; omega
    · have hw : ¬ waits key x := fun h => h2 h.1
      rw [show (x.1 == 2) = false from by simpa using h2, cond_false, rec_]
      simp only [fi, hw, if_false]
      cases fi key r with
      | none => rfl
      | some n => simp; omega

def wakeS (l : List Routine) (key : Int) : List Routine × Int × Int := if chkS l = 0 then (wokenL key l, who (fi key l), 0) else ([], 0, 8)
theorem f17_ok (N : Nat) (hN : 50 < N) (l : List Routine) (key : Int) (hr : ∀ x ∈ l, rok x) : F17 N (l, key) = some (wakeS l key) := by
  rw [F17_eq, f13_ok N hN l hr, Option.bind_some]
  rcases chkS_cases l with ⟨h, h1, h0, _⟩ | h
  · have := loop17 N key l [] N l rfl (by omega) (by omega)
    simp only [List.length_nil, Int.ofNat_zero, Nat.add_zero] at this
    rw [h]
    simp only [bne_self_eq_false, cond_false]
    rw [chk_of (room_of (by omega) (by omega)), this, Option.bind_some]
    simp only [wakeS, h, if_true]
    cases hf : fi key l with
    | none => simp [wokenL, who, hf]
    | some n =>
      obtain ⟨h2, x, h3, h4⟩ := fi_lt key hf
      simp only
      have hge : ((n : Int) ≥ 0) := by omega
      rw [decide_eq_true hge, cond_true, chk_of (inR_mid h2), Int.toNat_natCast, h3, Option.bind_some, chk_of (inR_mid (by simpa using h2))]
      have e : (l.set n ((1 : Int), x.2))[n]? = some ((1 : Int), x.2) := by simp [h2]
      rw [e, Option.bind_some]
      simp only [wokenL, who, hf]
      congr 2
      apply List.ext_getElem?
      intro i
      rw [List.getElem?_set, List.getElem?_modify]
      by_cases hi : n = i
      · subst hi
        have hx : l[n] = x := by simpa [h2] using h3
        simp [h2, hx, wakeR]
      · simp [hi]
  · simp [wakeS, h]

theorem wakeR_ok {x : Routine} (h : rok x) : rok (wakeR x) := by
  rw [rok_iff] at h ⊢
  simp only [wakeR]
  omega
theorem wokenL_rok {key : Int} {l : List Routine} (h : ∀ x ∈ l, rok x) : ∀ x ∈ wokenL key l, rok x := by
  intro x hx
  unfold wokenL at hx
  split at hx
  · rename_i n _
    obtain ⟨i, hi⟩ := List.getElem?_of_mem hx
    rw [List.getElem?_modify] at hi
    obtain ⟨y, hy, he⟩ := opt_map hi
    have := h y (List.mem_of_getElem? hy)
    split at he
    · subst he; exact wakeR_ok this
    · subst he; exact this
  · exact h x hx
theorem wokenL_length (key : Int) (l : List Routine) : (wokenL key l).length = l.length := by
  unfold wokenL
  split <;> simp
theorem wokenL_get (key : Int) (l : List Routine) (i : Nat) : (wokenL key l)[i]? = (l[i]?).map fun x => if fi key l = some i then wakeR x else x := by
  unfold wokenL
  cases hf : fi key l with
  | none => simp
  | some n =>
    simp only [List.getElem?_modify, Option.some.injEq]
    by_cases h : n = i <;> simp [h]

/-- valid goroutines, by places -/
theorem vrs_iff : ∀ (g : Int) (l : List Routine), vrs g l = true ↔ ∀ (i : Nat) x, l[i]? = some x → vr (g + i) x = true
  | g, [] => by simp [vrs]
  | g, x :: r => by
    rw [vrs, Bool.and_eq_true, vrs_iff]
    constructor
    · rintro ⟨h1, h2⟩ i y hi
      cases i with
      | zero => simp at hi; subst hi; simpa using h1
      | succ i =>
        have := h2 i y (by simpa using hi)
        rw [show g + 1 + (i : Int) = g + ((i + 1 : Nat) : Int) from by omega] at this
        exact this
    · intro h
      refine ⟨by simpa using h 0 x rfl, fun i y hi => ?_⟩
      have := h (i + 1) y (by simpa using hi)
      rw [show g + 1 + (i : Int) = g + ((i + 1 : Nat) : Int) from by omega]
      exact this
theorem vr_wake {g : Int} {x : Routine} (h : vr g x = true) (h2 : x.1 = 2) : vr g (wakeR x) = true := by
  simp only [vr, decide_eq_true_eq] at h ⊢
  rcases h with ⟨h, _⟩ | ⟨_, h⟩
  · omega
  · right
    simpa [wakeR] using h
theorem chkS_woken {key : Int} {l : List Routine} (h : chkS l = 0) : chkS (wokenL key l) = 0 := by
  rcases chkS_cases l with ⟨_, h1, h0, hv⟩ | h'
  · unfold chkS
    rw [if_pos]
    rw [wokenL_length]
    refine ⟨h0, h1, ?_⟩
    rw [vrs_iff] at hv ⊢
    intro i x hi
    rw [wokenL_get] at hi
    obtain ⟨y, hy, he⟩ := opt_map hi
    have := hv i y hy
    split at he
    · rename_i hf
      subst he
      obtain ⟨_, z, hz, hw⟩ := fi_lt key hf
      rw [hy] at hz
      injection hz with hz; subst hz
      exact vr_wake this hw.1
    · subst he; exact this
  · omega

theorem loop4 (N : Nat) (key : Int) (b : Bool) (w : Int) : ∀ (r pre : List Routine) (k : Nat) (l m : List Routine), l = pre ++ r → m = wokenL key l → l.length ≤ 50 → r.length < k →
    f4.L0_12 N k (l, key, b, m, w, who (fi key pre), (pre.length : Int)) = some (.inr (b, w, who (fi key l)))
  | [], pre, k + 1, l, m, hl, hm, hn, _ => by
    rw [f4.L0_12_succ]
    subst hl
    simp
  | x :: r, pre, k + 1, l, m, hl, hm, hn, hk => by
    rw [f4.L0_12_succ]
    have hlen : l.length = pre.length + (r.length + 1) := by subst hl; simp
    have h1 : (pre.length : Int) < (l.length : Int) := by omega
    have hx := getElem?_mid hl
    have hmx : m[pre.length]? = some (if fi key l = some pre.length then wakeR x else x) := by rw [hm, wokenL_get, hx]; rfl
    have hmi : idx m (pre.length : Int) = some (if fi key l = some pre.length then wakeR x else x) := idx_of_get (by omega) (by simpa using hmx)
    have e1 : wi64 ((pre.length : Int) + 1) = (pre.length : Int) + 1 := wi64_in (by omega)
    have rec_ := loop4 N key b w r (pre ++ [x]) k l m (by subst hl; simp) hm hn (by simp at hk; omega)
    rw [show (((pre ++ [x]).length : Nat) : Int) = (pre.length : Int) + 1 from by simp] at rec_
    have hfl : fi key l = match fi key pre with
      | some n => some n
      | none => (fi key (x :: r)).map (· + pre.length) := by rw [hl]; exact fi_append _ _ _
    have hfp : fi key (pre ++ [x]) = match fi key pre with
      | some n => some n
      | none => (fi key [x]).map (· + pre.length) := fi_append _ _ _
    rw [decide_eq_true h1, cond_true, idx_mid' hl rfl, Option.bind_some, e1, hmi]
    simp only [Option.bind_some]
    by_cases hw : waits key x
    · rw [show (x.1 == 2) = true from by simpa using hw.1, cond_true, show (x.2.2.2.2.2 == key) = true from by simpa using hw.2, cond_true]
      cases hp : fi key pre with
      | none =>
        rw [hp] at hfl hfp
        simp only [fi, hw, if_true, Option.map_some, Nat.zero_add] at hfl hfp
        rw [hfp] at rec_
        rw [hfl] at rec_ ⊢
        simp only [who] at rec_ ⊢
        simp [wakeR, rec_]
      | some n =>
        have hnl := (fi_lt key hp).1
        rw [hp] at hfl hfp
        simp only at hfl hfp
        rw [hfp] at rec_
        rw [hfl] at rec_ ⊢
        have hne : ¬ n = pre.length := by omega
        have hge : ¬ (n : Int) < 0 := by omega
        simp only [who] at rec_ ⊢
        simp [hne, hge, rec_]
    · have hne : ¬ fi key l = some pre.length := by
        intro h
        obtain ⟨_, y, hy, hw'⟩ := fi_lt key h
        rw [hx] at hy
        injection hy with hy; subst hy
        exact hw hw'
      have hfp' : fi key (pre ++ [x]) = fi key pre := by
        rw [hfp]
        cases fi key pre with
        | none => simp [fi, hw]
        | some n => rfl
      rw [hfp'] at rec_
      simp only [hne, if_false]
      by_cases h2 : x.1 = 2
      · have h3 : ¬ x.2.2.2.2.2 = key := fun h => hw ⟨h2, h⟩
        simp [Bool.cond_eq_ite, h2, h3, rec_]
      · simp [Bool.cond_eq_ite, h2, rec_]

theorem first_ok (l : List Routine) (key : Int) (hr : ∀ x ∈ l, rok x) : F4 100 (l, key) = some true := by
  rw [F4_eq, alive_ok, Option.bind_some, f14_ok 100 (by omega) l hr, Option.bind_some]
  rcases chkS_cases l with ⟨h, h1, h0, _⟩ | h
  · rw [f17_ok 100 (by omega) l key hr]
    simp only [wakeS, h, if_true, Option.bind_some, f13_ok 100 (by omega) _ (wokenL_rok hr), chkS_woken h, wokenL_length]
    have := loop4 100 key true (who (fi key l)) l [] 100 l _ rfl rfl (by omega) (by omega)
    simp only [fi, who, List.length_nil, Int.ofNat_zero] at this
    simp [this, who]
  · simp [h]
theorem first_law : ∀ x, okL [.sl TRoutine, .int .i64] x → F4 100 x = some true := by
  rintro ⟨l, key⟩ h
  simp only [okL, unpack, okD_cons, okD_nil, and_true] at h
  exact first_ok l key h.1.2
end Go.Proofs.Ytkdjilgpknecfaa
