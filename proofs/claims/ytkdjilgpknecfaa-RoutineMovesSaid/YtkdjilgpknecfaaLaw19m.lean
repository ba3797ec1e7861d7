/- The routine layer: what its functions and the reference's compute. -/
import Derived.Test.YtkdjilgpknecfaaGen19m
import Derived.Test.YtkdjilgpknecfaaPlain
import Derived.Test.YtkdjilgpknecfaaSymO
namespace Go.Proofs.Ytkdjilgpknecfaa
open Go Go.Eng Go.Sym

def codeOK (a : Int) : Bool := decide (256 ≤ a ∧ a < 8448)
def recOK (a : Int) : Bool := decide (a = 0 ∨ 65536 ≤ a ∧ a % 8 = 0)
def bas (g : Int) : Int := 16777216 * (g + 1)
/-- within the bounds of its type -/
def rok (x : Routine) : Prop := TRoutine.ok x
theorem rok_iff (x : Routine) : rok x ↔ (0 ≤ x.1 ∧ x.1 ≤ 255) ∧ (0 ≤ x.2.1 ∧ x.2.1 ≤ 18446744073709551615) ∧ (0 ≤ x.2.2.1 ∧ x.2.2.1 ≤ 18446744073709551615) ∧ (0 ≤ x.2.2.2.1 ∧ x.2.2.2.1 ≤ 18446744073709551615) ∧ (0 ≤ x.2.2.2.2.1 ∧ x.2.2.2.2.1 ≤ 18446744073709551615) ∧ (-9223372036854775808 ≤ x.2.2.2.2.2 ∧ x.2.2.2.2.2 ≤ 9223372036854775807) := Iff.rfl

theorem f25_ok (N : Nat) (a : Int) : F25 N a = some (codeOK a) := by
  rw [F25_eq]
  by_cases h : 256 ≤ a <;> simp [codeOK, h]
theorem f27_ok (N : Nat) {a : Int} (h : 0 ≤ a ∧ a ≤ 18446744073709551615) : F27 N a = some (codeOK a) := by
  rw [F27_eq]
  have e : wu64 (Int.tdiv a 256) = a / 256 := by rw [tdiv_nn h.1]; exact wu64_in (by omega)
  rw [e]
  by_cases h1 : a / 256 ≥ 1
  · simp only [h1, decide_true, cond_true, codeOK]
    congr 1
    rw [decide_eq_decide]
    omega
  · simp only [h1, decide_false, cond_false, codeOK]
    congr 1
    symm
    rw [decide_eq_false_iff_not]
    omega
theorem f39_ok (N : Nat) {a : Int} (h : 0 ≤ a) : F39 N a = some (recOK a) := by
  rw [F39_eq, tmod_nn h]
  by_cases h1 : a = 0
  · simp [Bool.cond_eq_ite, recOK, h1]
  · by_cases h2 : a % 8 = 0 <;> simp [Bool.cond_eq_ite, recOK, h1, h2]
theorem f40_ok (N : Nat) {a : Int} (h : 0 ≤ a) : F40 N a = some (recOK a) := by
  rw [F40_eq, tmod_nn h]
  by_cases h1 : a = 0
  · simp [Bool.cond_eq_ite, recOK, h1]
  · by_cases h2 : 65536 ≤ a
    · by_cases h3 : a % 8 = 0 <;> simp [Bool.cond_eq_ite, recOK, h1, h2, h3]
    · simp [Bool.cond_eq_ite, recOK, h1, h2]
theorem f26_ok (N : Nat) {g : Int} (h : 0 ≤ g ∧ g < 100) : F26 N g = some (bas g) := by
  rw [F26_eq]
  have e1 : wi64 (g + 1) = g + 1 := wi64_in (by omega)
  have e2 : wu64 (g + 1) = g + 1 := wu64_in (by omega)
  rw [e1, e2]
  congr 1
  exact wu64_in (by omega)
theorem f28_ok (N : Nat) {g : Int} (h : 0 ≤ g ∧ g < 100) : F28 N g = some (bas g) := by
  rw [F28_eq]
  have e1 : wi64 (g + 1) = g + 1 := wi64_in (by omega)
  have e2 : wi64 (16777216 * (g + 1)) = 16777216 * (g + 1) := wi64_in (by omega)
  rw [e1, e2]
  congr 1
  exact wu64_in (by omega)

/-- a goroutine with its number is valid -/
def vr (g : Int) (x : Routine) : Bool := decide ((x.1 = 3 ∧ x.2.1 = 0 ∧ x.2.2.1 = bas g ∧ x.2.2.2.1 = 0 ∧ x.2.2.2.2.1 = 0 ∧ x.2.2.2.2.2 = 0) ∨
  ((x.1 = 2 ∨ x.1 = 1 ∧ x.2.2.2.2.2 = 0) ∧ codeOK x.2.1 = true ∧ bas g + 24 ≤ x.2.2.1 ∧ x.2.2.1 ≤ bas g + 4096 ∧ x.2.2.1 % 8 = 0 ∧ recOK x.2.2.2.1 = true ∧ recOK x.2.2.2.2.1 = true))

theorem bas_dvd (g : Int) : bas g % 8 = 0 := by unfold bas; omega
theorem f30_ok (N : Nat) {g : Int} (h : 0 ≤ g ∧ g < 100) {x : Routine} (hx : rok x) : F30 N (g, x) = some (vr g x) := by
  obtain ⟨a, b, c, d, e, f⟩ := x
  rw [rok_iff] at hx
  simp only at hx
  have hb : 0 ≤ bas g ∧ bas g ≤ 1700000000 := by unfold bas; omega
  have hm := bas_dvd g
  rw [F30_eq]
  simp only [f26_ok N h, f25_ok, f39_ok N hx.2.2.2.1.1, f39_ok N hx.2.2.2.2.1.1, Option.bind_some]
  by_cases h3 : a = 3
  · simp only [h3, beq_self_eq_true, cond_true, vr]
    congr 1
    rw [Bool.eq_iff_iff]
    simp
  · have h3' : (a == 3) = false := by simpa using h3
    simp only [h3', cond_false]
    by_cases h4 : c < bas g
    · simp only [h4, decide_true, cond_true, vr]
      congr 1
      symm
      rw [decide_eq_false_iff_not]
      rintro (⟨h, _⟩ | ⟨_, _, h, _⟩)
      · exact h3 h
      · omega
    · have e1 : wu64 (c - bas g) = c - bas g := wu64_in (by omega)
      rw [e1, tmod_nn (by omega)]
      simp only [h4, decide_false, cond_false]
      by_cases h5 : c - bas g < 24
      · simp only [h5, decide_true, cond_true, vr]
        congr 1
        symm
        rw [decide_eq_false_iff_not]
        rintro (⟨h, _⟩ | ⟨_, _, h, _⟩)
        · exact h3 h
        · omega
      · simp only [h5, decide_false, cond_false]
        by_cases h6 : c - bas g > 4096
        · simp only [h6, decide_true, cond_true, vr]
          congr 1
          symm
          rw [decide_eq_false_iff_not]
          rintro (⟨h, _⟩ | ⟨_, _, _, h, _⟩)
          · exact h3 h
          · omega
        · simp only [h6, decide_false, cond_false]
          have c1 : bas g + 24 ≤ c := by omega
          have c2 : c ≤ bas g + 4096 := by omega
          by_cases h7 : (c - bas g) % 8 = 0
          · have c3 : c % 8 = 0 := by omega
            by_cases q1 : a = 2
            · cases hq : codeOK b <;> cases hd : recOK d <;> cases he : recOK e <;> simp [Bool.cond_eq_ite, vr, h7, q1, hq, hd, he, c1, c2, c3]
            · by_cases q2 : a = 1
              · by_cases q3 : f = 0
                · cases hq : codeOK b <;> cases hd : recOK d <;> cases he : recOK e <;> simp [Bool.cond_eq_ite, vr, h7, q2, q3, hq, hd, he, c1, c2, c3]
                · simp [Bool.cond_eq_ite, vr, h7, q2, q3]
              · simp [Bool.cond_eq_ite, vr, h7, q1, q2, h3]
          · have c3 : ¬ c % 8 = 0 := by omega
            simp [Bool.cond_eq_ite, vr, h7, h3, c3]
theorem f31_ok (N : Nat) {g : Int} (h : 0 ≤ g ∧ g < 100) {x : Routine} (hx : rok x) : F31 N (g, x) = some (vr g x) := by
  obtain ⟨a, b, c, d, e, f⟩ := x
  rw [rok_iff] at hx
  simp only at hx
  have hb : 0 ≤ bas g ∧ bas g ≤ 1700000000 := by unfold bas; omega
  have e1 : wu64 (bas g + 24) = bas g + 24 := wu64_in (by omega)
  have e2 : wu64 (bas g + 4096) = bas g + 4096 := wu64_in (by omega)
  rw [F31_eq]
  simp only [f28_ok N h, f27_ok N hx.2.1, f40_ok N hx.2.2.2.1.1, f40_ok N hx.2.2.2.2.1.1, Option.bind_some, e1, e2, tmod_nn hx.2.2.1.1]
  by_cases h1 : a = 1
  · by_cases q3 : f = 0
    · by_cases c1 : bas g + 24 ≤ c <;> by_cases c2 : c ≤ bas g + 4096 <;> by_cases c3 : c % 8 = 0 <;> cases hq : codeOK b <;> cases hd : recOK d <;> cases he : recOK e <;> simp [Bool.cond_eq_ite, vr, h1, q3, hq, hd, he, c1, c2, c3]
    · simp [Bool.cond_eq_ite, vr, h1, q3]
  · by_cases h2 : a = 2
    · by_cases c1 : bas g + 24 ≤ c <;> by_cases c2 : c ≤ bas g + 4096 <;> by_cases c3 : c % 8 = 0 <;> cases hq : codeOK b <;> cases hd : recOK d <;> cases he : recOK e <;> simp [Bool.cond_eq_ite, vr, h2, hq, hd, he, c1, c2, c3]
    · by_cases h3 : a = 3
      · by_cases q1 : b = 0 <;> by_cases q2 : c = bas g <;> by_cases q3 : d = 0 <;> by_cases q4 : e = 0 <;> by_cases q5 : f = 0 <;> simp [Bool.cond_eq_ite, vr, h3, q1, q2, q3, q4, q5]
      · simp [Bool.cond_eq_ite, vr, h1, h2, h3]

/-- all are valid, from a number on -/
def vrs : Int → List Routine → Bool
  | _, [] => true
  | g, x :: r => vr g x && vrs (g + 1) r
theorem loop13 (N : Nat) : ∀ (r pre : List Routine) (k : Nat) (l : List Routine), l = pre ++ r → l.length ≤ 50 → (∀ x ∈ l, rok x) → r.length < k → f13.L0_6 N k (l, (l.length : Int), (pre.length : Int)) = some (if vrs pre.length r then .inr () else .inl 8)
  | [], pre, k + 1, l, hl, hn, _, _ => by
    rw [f13.L0_6_succ]
    subst hl
    simp [vrs]
  | x :: r, pre, k + 1, l, hl, hn, hr, hk => by
    rw [f13.L0_6_succ]
    have hlen : l.length = pre.length + (r.length + 1) := by subst hl; simp
    have h1 : (pre.length : Int) < (l.length : Int) := by omega
    rw [decide_eq_true h1, cond_true, idx_mid' hl rfl, Option.bind_some, f30_ok N (by omega) (hr x (by subst hl; simp)), Option.bind_some]
    have e1 : wi64 ((pre.length : Int) + 1) = ((pre ++ [x]).length : Int) := by rw [wi64_in (by omega)]; simp
    rw [e1]
    cases hv : vr pre.length x with
    | false => simp [vrs, hv]
    | true =>
      simp only [Bool.not_true, cond_false]
      rw [loop13 N r (pre ++ [x]) k l (by subst hl; simp) hn hr (by simp at hk; omega)]
      simp [vrs, hv]
theorem loop14 (N : Nat) : ∀ (r pre : List Routine) (k : Nat) (l : List Routine), l = pre ++ r → l.length ≤ 50 → (∀ x ∈ l, rok x) → r.length < k → f14.L0_6 N k (l, (pre.length : Int)) = some (if vrs pre.length r then .inr () else .inl 8)
  | [], pre, k + 1, l, hl, hn, _, _ => by
    rw [f14.L0_6_succ]
    subst hl
    simp [vrs]
  | x :: r, pre, k + 1, l, hl, hn, hr, hk => by
    rw [f14.L0_6_succ]
    have hlen : l.length = pre.length + (r.length + 1) := by subst hl; simp
    have h1 : (pre.length : Int) < (l.length : Int) := by omega
    rw [decide_eq_true h1, cond_true, idx_mid' hl rfl, Option.bind_some, f31_ok N (by omega) (hr x (by subst hl; simp)), Option.bind_some]
    have e1 : wi64 ((pre.length : Int) + 1) = ((pre ++ [x]).length : Int) := by rw [wi64_in (by omega)]; simp
    rw [e1]
    cases hv : vr pre.length x with
    | false => simp [vrs, hv]
    | true =>
      simp only [Bool.not_true, cond_false]
      rw [loop14 N r (pre ++ [x]) k l (by subst hl; simp) hn hr (by simp at hk; omega)]
      simp [vrs, hv]

/-- the error of a list -/
def chkS (l : List Routine) : Int := if 1 ≤ l.length ∧ l.length ≤ 16 ∧ vrs 0 l = true then 0 else 8
theorem f13_ok (N : Nat) (hN : 50 < N) (l : List Routine) (hr : ∀ x ∈ l, rok x) : F13 N l = some (chkS l) := by
  rw [F13_eq]
  by_cases h1 : (l.length : Int) < 1
  · rw [decide_eq_true h1, cond_true, chkS, if_neg (by omega)]
  · rw [decide_eq_false h1, cond_false]
    by_cases h2 : (l.length : Int) > 16
    · rw [decide_eq_true h2, cond_true, chkS, if_neg (by omega)]
    · rw [decide_eq_false h2, cond_false]
      have := loop13 N l [] N l rfl (by omega) hr (by omega)
      simp only [List.length_nil, Int.ofNat_zero] at this
      rw [this, Option.bind_some]
      unfold chkS
      cases hv : vrs 0 l with
      | true => simp; omega
      | false => simp
theorem f14_ok (N : Nat) (hN : 50 < N) (l : List Routine) (hr : ∀ x ∈ l, rok x) : F14 N l = some (chkS l) := by
  rw [F14_eq]
  by_cases h1 : (l.length : Int) = 0
  · rw [show ((l.length : Int) == 0) = true from by simpa using h1, cond_true, chkS, if_neg (by omega)]
  · rw [show ((l.length : Int) == 0) = false from by simpa using h1, cond_false]
    by_cases h2 : (l.length : Int) > 16
    · rw [decide_eq_true h2, cond_true, chkS, if_neg (by omega)]
    · rw [decide_eq_false h2, cond_false]
      have := loop14 N l [] N l rfl (by omega) hr (by omega)
      simp only [List.length_nil, Int.ofNat_zero] at this
      rw [this, Option.bind_some]
      unfold chkS
      cases hv : vrs 0 l with
      | true => simp; omega
      | false => simp

theorem chkS_cases (l : List Routine) : chkS l = 0 ∧ l.length ≤ 16 ∧ 1 ≤ l.length ∧ vrs 0 l = true ∨ chkS l = 8 := by
  unfold chkS
  split
  · rename_i h; exact .inl ⟨rfl, h.2.1, h.1, h.2.2⟩
  · exact .inr rfl
def waits (key : Int) (x : Routine) : Prop := x.1 = 2 ∧ x.2.2.2.2.2 = key
instance (key : Int) (x : Routine) : Decidable (waits key x) := inferInstanceAs (Decidable (_ ∧ _))
/-- the first one that waits -/
def fi (key : Int) : List Routine → Option Nat
  | [] => none
  | x :: r => if waits key x then some 0 else (fi key r).map (· + 1)
def wakeR (x : Routine) : Routine := (1, x.2.1, x.2.2.1, x.2.2.2.1, x.2.2.2.2.1, 0)
def wokenL (key : Int) (l : List Routine) : List Routine := match fi key l with
  | some n => l.modify n wakeR
  | none => l
def who (o : Option Nat) : Int := match o with
  | some n => n
  | none => -1

theorem fi_append (key : Int) : ∀ (a b : List Routine), fi key (a ++ b) = match fi key a with
    | some n => some n
    | none => (fi key b).map (· + a.length)
  | [], b => by simp [fi]
  | x :: a, b => by
    simp only [List.cons_append, fi]
    split
    · rfl
    · rw [fi_append key a b]
      cases fi key a with
      | some n => rfl
      | none =>
        cases fi key b with
        | none => rfl
        | some m => simp; omega
theorem fi_lt (key : Int) : ∀ {l : List Routine} {n : Nat}, fi key l = some n → n < l.length ∧ ∃ x, l[n]? = some x ∧ waits key x
  | [], n, h => by cases h
  | x :: r, n, h => by
    simp only [fi] at h
    split at h
    · injection h with h; subst h; exact ⟨by simp, x, rfl, by assumption⟩
    · cases hf : fi key r with
      | none => rw [hf] at h; cases h
      | some m =>
        rw [hf] at h
        injection h with h; subst h
        obtain ⟨h1, y, h2, h3⟩ := fi_lt key hf
        exact ⟨by simp; omega, y, by simpa using h2, h3⟩

theorem getElem?_mid {α : Type} {l pre : List α} {x : α} {r : List α} (hl : l = pre ++ x :: r) : l[pre.length]? = some x := by
  subst hl; simp
theorem inR_mid {n m : Nat} (h : n < m) : inR (n : Int) m = true := by simp [inR, h]

theorem loop17 (N : Nat) (key : Int) : ∀ (r pre : List Routine) (k : Nat) (l : List Routine), l = pre ++ r → l.length ≤ 50 → r.length < k → f17.L1019000_3 N k ((l.length : Int), (pre.length : Int), l, key) = some (match fi key r with
    | some n => .inl (((n + pre.length : Nat) : Int), l)
    | none => .inr l)
  | [], pre, k + 1, l, hl, hn, _ => by
    rw [f17.L1019000_3_succ]
    subst hl
    simp [fi]
  | x :: r, pre, k + 1, l, hl, hn, hk => by
    rw [f17.L1019000_3_succ]
    have hlen : l.length = pre.length + (r.length + 1) := by subst hl; simp
    have h1 : (pre.length : Int) < (l.length : Int) := by omega
    rw [decide_eq_true h1, cond_true, chk_of (inR_mid (by omega)), Int.toNat_natCast, getElem?_mid hl, Option.bind_some]
    have e1 : wi64 ((pre.length : Int) + 1) = ((pre ++ [x]).length : Int) := by rw [wi64_in (by omega)]; simp
    rw [e1]
    have rec_ := loop17 N key r (pre ++ [x]) k l (by subst hl; simp) hn (by simp at hk; omega)
    have step : (fi key r).map (· + 1) = fi key (x :: r) ∨ waits key x := by
      by_cases hw : waits key x
      · exact .inr hw
      · left; simp [fi, hw]
    by_cases h2 : x.1 = 2
    · by_cases h3 : x.2.2.2.2.2 = key
      · have hw : waits key x := ⟨h2, h3⟩
        simp [h2, h3, fi, hw]
      · have hw : ¬ waits key x := fun h => h3 h.2
        rw [show (x.1 == 2) = true from by simpa using h2, cond_true, show (x.2.2.2.2.2 == key) = false from by simpa using h3, cond_false, rec_]
        simp only [fi, hw, if_false]
        cases fi key r with
        | none => rfl
        | some n => simp; omega
    · have hw : ¬ waits key x := fun h => h2 h.1
      rw [show (x.1 == 2) = false from by simpa using h2, cond_false, rec_]
      simp only [fi, hw, if_false]
      cases fi key r with
      | none => rfl
      | some n => simp; omega

def wakeS (l : List Routine) (key : Int) : List Routine × Int × Int := if chkS l = 0 then (wokenL key l, who (fi key l), 0) else ([], 0, 8)
theorem f17_ok (N : Nat) (hN : 50 < N) (l : List Routine) (key : Int) (hr : ∀ x ∈ l, rok x) : F17 N (l, key) = some (wakeS l key) := by
  rw [F17_eq, f13_ok N hN l hr, Option.bind_some]
  rcases chkS_cases l with ⟨h, h1, h0, _⟩ | h
  · have := loop17 N key l [] N l rfl (by omega) (by omega)
    simp only [List.length_nil, Int.ofNat_zero, Nat.add_zero] at this
    rw [h]
    simp only [bne_self_eq_false, cond_false]
    rw [chk_of (room_of (by omega) (by omega)), this, Option.bind_some]
    simp only [wakeS, h, if_true]
    cases hf : fi key l with
    | none => simp [wokenL, who, hf]
    | some n =>
      obtain ⟨h2, x, h3, h4⟩ := fi_lt key hf
      simp only
      have hge : ((n : Int) ≥ 0) := by omega
      rw [decide_eq_true hge, cond_true, chk_of (inR_mid h2), Int.toNat_natCast, h3, Option.bind_some, chk_of (inR_mid (by simpa using h2))]
      have e : (l.set n ((1 : Int), x.2))[n]? = some ((1 : Int), x.2) := by simp [h2]
      rw [e, Option.bind_some]
      simp only [wokenL, who, hf]
      congr 2
      apply List.ext_getElem?
      intro i
      rw [List.getElem?_set, List.getElem?_modify]
      by_cases hi : n = i
      · subst hi
        have hx : l[n] = x := by simpa [h2] using h3
        simp [h2, hx, wakeR]
      · simp [hi]
  · simp [wakeS, h]

theorem loop24 (N : Nat) : ∀ (r pre : List Routine) (k : Nat) (l : List Routine), l = pre ++ r → l.length ≤ 1000 → r.length < k → f24.L0_6 N k (l, l, (pre.length : Int)) = some (.inr ())
  | [], pre, k + 1, l, hl, hn, _ => by
    rw [f24.L0_6_succ]
    subst hl
    simp
  | x :: r, pre, k + 1, l, hl, hn, hk => by
    rw [f24.L0_6_succ]
    have hlen : l.length = pre.length + (r.length + 1) := by subst hl; simp
    have h1 : (pre.length : Int) < (l.length : Int) := by omega
    rw [decide_eq_true h1, cond_true, idx_mid' hl rfl, Option.bind_some, Option.bind_some]
    have e1 : wi64 ((pre.length : Int) + 1) = ((pre ++ [x]).length : Int) := by rw [wi64_in (by omega)]; simp
    rw [e1]
    simp only [beq_self_eq_true, Bool.and_self, Bool.not_true, cond_false]
    exact loop24 N r (pre ++ [x]) k l (by subst hl; simp) hn (by simp at hk; omega)
theorem f24_same (N : Nat) (l : List Routine) (h : l.length < N) (h' : l.length ≤ 1000) : F24 N (l, l) = some true := by
  rw [F24_eq]
  have := loop24 N l [] N l rfl h' h
  simp only [List.length_nil, Int.ofNat_zero] at this
  simp [this]


theorem f18_ok (N : Nat) (l : List Routine) (h : l.length ≤ 20) : F18 N l = some l := by
  rw [F18_eq, chk_of (room_of (by omega) (by omega))]
  simp
def askS (l : List Routine) (g : Int) : Int := if chkS l = 0 then (if g < 0 ∨ g ≥ l.length then 2 else 0) else 8
theorem f36_ok (N : Nat) (hN : 50 < N) (l : List Routine) (g : Int) (hr : ∀ x ∈ l, rok x) : F36 N (l, g) = some (askS l g) := by
  rw [F36_eq, f13_ok N hN l hr, Option.bind_some, askS]
  rcases chkS_cases l with ⟨h, _⟩ | h
  · by_cases h1 : g < 0
    · simp [h, h1]
    · by_cases h2 : g ≥ l.length <;> simp [h, h1, h2]
  · simp [h]
theorem f37_ok (N : Nat) (hN : 50 < N) (l : List Routine) (g : Int) (hr : ∀ x ∈ l, rok x) : F37 N (l, g) = some (askS l g) := by
  rw [F37_eq, f14_ok N hN l hr, Option.bind_some, askS]
  rcases chkS_cases l with ⟨h, _⟩ | h
  · by_cases h1 : g < 0
    · simp [h, h1]
    · by_cases h2 : g ≥ l.length <;> simp [h, h1, h2]
  · simp [h]
theorem askS_cases (l : List Routine) (g : Int) : (askS l g = 0 ∧ l.length ≤ 16 ∧ ∃ n : Nat, g = n ∧ ∃ x, l[n]? = some x) ∨ askS l g ≠ 0 := by
  unfold askS
  rcases chkS_cases l with ⟨h, h1, _⟩ | h
  · by_cases h2 : g < 0 ∨ g ≥ l.length
    · simp [h, h2]
    · refine .inl ⟨by simp [h, h2], h1, g.toNat, by omega, ?_⟩
      have : g.toNat < l.length := by omega
      exact ⟨_, List.getElem?_eq_getElem this⟩
  · simp [h]
def blockR (key : Int) (x : Routine) : Routine := (2, x.2.1, x.2.2.1, x.2.2.2.1, x.2.2.2.2.1, key)
def endR (n : Nat) : Routine := (3, 0, bas n, 0, 0, 0)
def blockS (l : List Routine) (g key : Int) : List Routine × Int :=
  if askS l g = 0 then match l[g.toNat]? with
    | some x => if x.1 = 1 then (l.set g.toNat (blockR key x), 0) else ([], 36)
    | none => ([], 0)
  else ([], askS l g)
def endS (l : List Routine) (g : Int) : List Routine × Int :=
  if askS l g = 0 then match l[g.toNat]? with
    | some x => if x.1 = 3 then ([], 36) else (l.set g.toNat (endR g.toNat), 0)
    | none => ([], 0)
  else ([], askS l g)
theorem f19_ok (N : Nat) (hN : 50 < N) (l : List Routine) (g key : Int) (hr : ∀ x ∈ l, rok x) : F19 N (l, g, key) = some (blockS l g key) := by
  rw [F19_eq, f36_ok N hN l g hr, Option.bind_some]
  unfold blockS
  rcases askS_cases l g with ⟨h, hl, n, rfl, x, hx⟩ | h
  · obtain ⟨hn, _⟩ := List.getElem?_eq_some_iff.1 hx
    rw [h]
    simp only [bne_self_eq_false, cond_false, if_true, Int.toNat_natCast, hx]
    rw [idx_of_get (x := x) (by omega) (by simpa using hx), Option.bind_some]
    by_cases h1 : x.1 = 1
    · rw [show (x.1 != 1) = false from by simp [h1], cond_false, chk_of (room_of (by omega) (by omega)), chk_of (inR_mid hn), Option.bind_some, chk_of (inR_mid (by simpa using hn))]
      have e : (l.set n ((2 : Int), x.2))[n]? = some ((2 : Int), x.2) := by simp [hn]
      rw [e, Option.bind_some, if_pos h1, List.set_set]
      rfl
    · rw [show (x.1 != 1) = true from by simp [h1], cond_true, if_neg h1]
  · rw [show (askS l g != 0) = true from by simpa using h, cond_true, if_neg h]
theorem f20_ok (N : Nat) (hN : 50 < N) (l : List Routine) (g key : Int) (hr : ∀ x ∈ l, rok x) : F20 N (l, g, key) = some (blockS l g key) := by
  rw [F20_eq, f37_ok N hN l g hr, Option.bind_some]
  unfold blockS
  rcases askS_cases l g with ⟨h, hl, n, rfl, x, hx⟩ | h
  · obtain ⟨hn, _⟩ := List.getElem?_eq_some_iff.1 hx
    rw [h]
    simp only [bne_self_eq_false, cond_false, if_true, Int.toNat_natCast, hx]
    rw [idx_of_get (x := x) (by omega) (by simpa using hx), Option.bind_some]
    by_cases h1 : x.1 = 1
    · rw [show (x.1 != 1) = false from by simp [h1], cond_false, f18_ok N l (by omega), Option.bind_some, chk_of (inR_mid hn), hx, Option.bind_some, chk_of (inR_mid (by simpa using hn))]
      have e : (l.set n ((2 : Int), x.2))[n]? = some ((2 : Int), x.2) := by simp [hn]
      rw [e, Option.bind_some, if_pos h1, List.set_set]
      rfl
    · rw [show (x.1 != 1) = true from by simp [h1], cond_true, if_neg h1]
  · rw [show (askS l g != 0) = true from by simpa using h, cond_true, if_neg h, Option.bind_some]
theorem f22_ok (N : Nat) (hN : 50 < N) (l : List Routine) (g : Int) (hr : ∀ x ∈ l, rok x) : F22 N (l, g) = some (endS l g) := by
  rw [F22_eq, f36_ok N hN l g hr, Option.bind_some]
  unfold endS
  rcases askS_cases l g with ⟨h, hl, n, rfl, x, hx⟩ | h
  · obtain ⟨hn, _⟩ := List.getElem?_eq_some_iff.1 hx
    rw [h]
    simp only [bne_self_eq_false, cond_false, if_true, Int.toNat_natCast, hx]
    rw [idx_of_get (x := x) (by omega) (by simpa using hx), Option.bind_some]
    by_cases h1 : x.1 = 3
    · rw [show (x.1 == 3) = true from by simp [h1], cond_true, if_pos h1]
    · rw [show (x.1 == 3) = false from by simp [h1], cond_false, chk_of (room_of (by omega) (by omega)), f26_ok N (by omega), Option.bind_some, chk_of (inR_mid hn), Option.bind_some, if_neg h1]
      rfl
  · rw [show (askS l g != 0) = true from by simpa using h, cond_true, if_neg h]
theorem f23_ok (N : Nat) (hN : 50 < N) (l : List Routine) (g : Int) (hr : ∀ x ∈ l, rok x) : F23 N (l, g) = some (endS l g) := by
  rw [F23_eq, f37_ok N hN l g hr, Option.bind_some]
  unfold endS
  rcases askS_cases l g with ⟨h, hl, n, rfl, x, hx⟩ | h
  · obtain ⟨hn, _⟩ := List.getElem?_eq_some_iff.1 hx
    rw [h]
    simp only [bne_self_eq_false, cond_false, if_true, Int.toNat_natCast, hx]
    rw [idx_of_get (x := x) (by omega) (by simpa using hx), Option.bind_some]
    by_cases h1 : x.1 = 3
    · rw [show (x.1 == 3) = true from by simp [h1], cond_true, if_pos h1]
    · rw [show (x.1 == 3) = false from by simp [h1], cond_false, f18_ok N l (by omega), Option.bind_some, f28_ok N (by omega), Option.bind_some, chk_of (inR_mid hn), hx, Option.bind_some, if_neg h1]
      rfl
  · rw [show (askS l g != 0) = true from by simpa using h, cond_true, if_neg h, Option.bind_some]

theorem loop38 (N : Nat) (key : Int) : ∀ (r pre : List Routine) (k : Nat) (l : List Routine), l = pre ++ r → l.length ≤ 50 → r.length < k → f38.L0_4 N k (key, (pre.length : Int), l) = some (match fi key r with
    | some n => .inl (((n + pre.length : Nat) : Int), l.modify (n + pre.length) wakeR)
    | none => .inr l)
  | [], pre, k + 1, l, hl, hn, _ => by
    rw [f38.L0_4_succ]
    subst hl
    simp [fi]
  | x :: r, pre, k + 1, l, hl, hn, hk => by
    rw [f38.L0_4_succ]
    have hlen : l.length = pre.length + (r.length + 1) := by subst hl; simp
    have h1 : (pre.length : Int) < (l.length : Int) := by omega
    have hin : pre.length < l.length := by omega
    have hg := getElem?_mid hl
    have ih := loop38 N key r (pre ++ [x]) k l (by subst hl; simp) hn (by simp at hk; omega)
    have e1 : wi64 ((pre.length : Int) + 1) = ((pre ++ [x]).length : Int) := by rw [wi64_in (by omega)]; simp
    rw [decide_eq_true h1, cond_true, chk_of (inR_mid hin), Int.toNat_natCast, hg, Option.bind_some, e1, ih]
    by_cases hs : x.1 = 2
    · rw [show (x.1 == 2) = true from by simp [hs], cond_true, chk_of (inR_mid hin), Option.bind_some]
      by_cases hq : x.2.2.2.2.2 = key
      · have hw : waits key x := ⟨hs, hq⟩
        rw [show (x.2.2.2.2.2 == key) = true from by simp [hq], cond_true, chk_of (inR_mid hin), Option.bind_some, chk_of (inR_mid (by simpa using hin))]
        have e : (l.set pre.length ((1 : Int), x.2))[pre.length]? = some ((1 : Int), x.2) := by simp [hin]
        rw [e, Option.bind_some, List.set_set]
        simp only [fi, hw, if_true, Nat.zero_add]
        congr 3
        apply List.ext_getElem?
        intro i
        rw [List.getElem?_set, List.getElem?_modify]
        by_cases hi : pre.length = i
        · subst hi
          have hx : l[pre.length] = x := by simpa [hin] using hg
          simp [hin, hx, wakeR]
        · simp [hi]
      · have hw : ¬ waits key x := fun h => hq h.2
        rw [show (x.2.2.2.2.2 == key) = false from by simp [hq], cond_false]
        simp only [fi, hw, if_false]
        cases fi key r with
        | none => rfl
        | some n =>
          have : n + (pre ++ [x]).length = n + 1 + pre.length := by simp; omega
          simp only [Option.map_some, this]
    · have hw : ¬ waits key x := fun h => hs h.1
      rw [show (x.1 == 2) = false from by simp [hs], cond_false]
      simp only [fi, hw, if_false]
      cases fi key r with
      | none => rfl
      | some n =>
        have : n + (pre ++ [x]).length = n + 1 + pre.length := by simp; omega
        simp only [Option.map_some, this]
theorem f38_ok (N : Nat) (hN : 50 < N) (l : List Routine) (key : Int) (h : l.length ≤ 16) : F38 N (l, key) = some (wokenL key l, who (fi key l)) := by
  rw [F38_eq, f18_ok N l (by omega), Option.bind_some]
  have := loop38 N key l [] N l rfl (by omega) (by omega)
  simp only [List.length_nil, Int.ofNat_zero, Nat.add_zero] at this
  rw [this, Option.bind_some]
  cases hf : fi key l with
  | none => simp [wokenL, who, hf]
  | some n => simp [wokenL, who, hf]
theorem f21_ok (N : Nat) (hN : 50 < N) (l : List Routine) (key : Int) (hr : ∀ x ∈ l, rok x) : F21 N (l, key) = some (wakeS l key) := by
  rw [F21_eq, f14_ok N hN l hr, Option.bind_some, wakeS]
  rcases chkS_cases l with ⟨h, h1, _⟩ | h
  · simp [h, f38_ok N hN l key h1]
  · simp [h]
theorem blockS_length (l : List Routine) (g key : Int) : (blockS l g key).1.length ≤ l.length := by
  unfold blockS
  split
  · split
    · split <;> simp
    · simp
  · simp
theorem endS_length (l : List Routine) (g : Int) : (endS l g).1.length ≤ l.length := by
  unfold endS
  split
  · split
    · split <;> simp
    · simp
  · simp
theorem wakeS_length (l : List Routine) (key : Int) : (wakeS l key).1.length ≤ l.length := by
  unfold wakeS
  split
  · simp only [wokenL]
    split <;> simp
  · simp
theorem moves_ok (N : Nat) (hN : 50 < N) (l : List Routine) (g key : Int) (hr : ∀ x ∈ l, rok x) : F5 N (l, g, key) = some true := by
  rw [F5_eq]
  by_cases h : (l.length : Int) > 20
  · rw [decide_eq_true h, cond_true]
  · rw [decide_eq_false h, cond_false]
    have hl : l.length ≤ 20 := by omega
    have h1 := blockS_length l g key
    have h2 := endS_length l g
    have h3 := wakeS_length l key
    simp only [f18_ok N l hl, Option.bind_some, f19_ok N hN l g key hr, f20_ok N hN l g key hr, f17_ok N hN l key hr, f21_ok N hN l key hr, f22_ok N hN l g hr, f23_ok N hN l g hr]
    rw [f24_same N (blockS l g key).1 (by omega) (by omega), f24_same N (wakeS l key).1 (by omega) (by omega), f24_same N (endS l g).1 (by omega) (by omega), f24_same N l (by omega) (by omega)]
    simp
theorem moves_law : ∀ x, okL [.sl TRoutine, .int .i64, .int .i64] x → F5 100 x = some true := by
  intro x h
  obtain ⟨l, g, key⟩ := x
  have h' := okD_cons.1 h
  exact moves_ok 100 (by omega) l g key fun x hx => h'.1.2 x hx
end Go.Proofs.Ytkdjilgpknecfaa
