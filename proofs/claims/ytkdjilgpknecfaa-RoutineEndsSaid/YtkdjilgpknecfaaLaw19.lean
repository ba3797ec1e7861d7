/- The routine layer: what its functions and the reference's compute. -/
import Derived.Test.YtkdjilgpknecfaaGen19b
import Derived.Test.YtkdjilgpknecfaaPlain
import Derived.Test.YtkdjilgpknecfaaSymO
namespace Go.Proofs.Ytkdjilgpknecfaa
open Go Go.Eng Go.Sym

def codeOK (a : Int) : Bool := decide (256 ≤ a ∧ a < 8448)
def recOK (a : Int) : Bool := decide (a = 0 ∨ 65536 ≤ a ∧ a % 8 = 0)
def bas (g : Int) : Int := 16777216 * (g + 1)
/-- within the bounds of its type -/
def rok (x : Routine) : Prop := TRoutine.ok x
theorem rok_iff (x : Routine) : rok x ↔ (0 ≤ x.1 ∧ x.1 ≤ 255) ∧ (0 ≤ x.2.1 ∧ x.2.1 ≤ 18446744073709551615) ∧ (0 ≤ x.2.2.1 ∧ x.2.2.1 ≤ 18446744073709551615) ∧ (0 ≤ x.2.2.2.1 ∧ x.2.2.2.1 ≤ 18446744073709551615) ∧ (0 ≤ x.2.2.2.2.1 ∧ x.2.2.2.2.1 ≤ 18446744073709551615) ∧ (-9223372036854775808 ≤ x.2.2.2.2.2 ∧ x.2.2.2.2.2 ≤ 9223372036854775807) := Iff.rfl

theorem f25_ok (N : Nat) (a : Int) : F25 N a = some (codeOK a) := by
  rw [F25_eq]
  by_cases h : 256 ≤ a <;> simp [codeOK, h]
theorem f27_ok (N : Nat) {a : Int} (h : 0 ≤ a ∧ a ≤ 18446744073709551615) : F27 N a = some (codeOK a) := by
  rw [F27_eq]
  have e : wu64 (Int.tdiv a 256) = a / 256 := by rw [tdiv_nn h.1]; exact wu64_in (by omega)
  rw [e]
  by_cases h1 : a / 256 ≥ 1
  · simp only [h1, decide_true, cond_true, codeOK]
    congr 1
    rw [decide_eq_decide]
    omega
  · simp only [h1, decide_false, cond_false, codeOK]
    congr 1
    symm
    rw [decide_eq_false_iff_not]
    omega
theorem f39_ok (N : Nat) {a : Int} (h : 0 ≤ a) : F39 N a = some (recOK a) := by
  rw [F39_eq, tmod_nn h]
  by_cases h1 : a = 0
  · simp [Bool.cond_eq_ite, recOK, h1]
  · by_cases h2 : a % 8 = 0 <;> simp [Bool.cond_eq_ite, recOK, h1, h2]
theorem f40_ok (N : Nat) {a : Int} (h : 0 ≤ a) : F40 N a = some (recOK a) := by
  rw [F40_eq, tmod_nn h]
  by_cases h1 : a = 0
  · simp [Bool.cond_eq_ite, recOK, h1]
  · by_cases h2 : 65536 ≤ a
    · by_cases h3 : a % 8 = 0 <;> simp [Bool.cond_eq_ite, recOK, h1, h2, h3]
    · simp [Bool.cond_eq_ite, recOK, h1, h2]
theorem f26_ok (N : Nat) {g : Int} (h : 0 ≤ g ∧ g < 100) : F26 N g = some (bas g) := by
  rw [F26_eq]
  have e1 : wi64 (g + 1) = g + 1 := wi64_in (by omega)
  have e2 : wu64 (g + 1) = g + 1 := wu64_in (by omega)
  rw [e1, e2]
  congr 1
  exact wu64_in (by omega)
theorem f28_ok (N : Nat) {g : Int} (h : 0 ≤ g ∧ g < 100) : F28 N g = some (bas g) := by
  rw [F28_eq]
  have e1 : wi64 (g + 1) = g + 1 := wi64_in (by omega)
  have e2 : wi64 (16777216 * (g + 1)) = 16777216 * (g + 1) := wi64_in (by omega)
  rw [e1, e2]
  congr 1
  exact wu64_in (by omega)

/-- a goroutine with its number is valid -/
def vr (g : Int) (x : Routine) : Bool := decide ((x.1 = 3 ∧ x.2.1 = 0 ∧ x.2.2.1 = bas g ∧ x.2.2.2.1 = 0 ∧ x.2.2.2.2.1 = 0 ∧ x.2.2.2.2.2 = 0) ∨
  ((x.1 = 2 ∨ x.1 = 1 ∧ x.2.2.2.2.2 = 0) ∧ codeOK x.2.1 = true ∧ bas g + 24 ≤ x.2.2.1 ∧ x.2.2.1 ≤ bas g + 4096 ∧ x.2.2.1 % 8 = 0 ∧ recOK x.2.2.2.1 = true ∧ recOK x.2.2.2.2.1 = true))

theorem bas_dvd (g : Int) : bas g % 8 = 0 := by unfold bas; omega
theorem f30_ok (N : Nat) {g : Int} (h : 0 ≤ g ∧ g < 100) {x : Routine} (hx : rok x) : F30 N (g, x) = some (vr g x) := by
  obtain ⟨a, b, c, d, e, f⟩ := x
  rw [rok_iff] at hx
  simp only at hx
  have hb : 0 ≤ bas g ∧ bas g ≤ 1700000000 := by unfold bas; omega
  have hm := bas_dvd g
  rw [F30_eq]
  simp only [f26_ok N h, f25_ok, f39_ok N hx.2.2.2.1.1, f39_ok N hx.2.2.2.2.1.1, Option.bind_some]
  by_cases h3 : a = 3
  · simp only [h3, beq_self_eq_true, cond_true, vr]
    congr 1
    rw [Bool.eq_iff_iff]
    simp
  · have h3' : (a == 3) = false := by simpa using h3
    simp only [h3', cond_false]
    by_cases h4 : c < bas g
    · simp only [h4, decide_true, cond_true, vr]
      congr 1
      symm
      rw [decide_eq_false_iff_not]
      rintro (⟨h, _⟩ | ⟨_, _, h, _⟩)
      · exact h3 h
      · omega
    · have e1 : wu64 (c - bas g) = c - bas g := wu64_in (by omega)
      rw [e1, tmod_nn (by omega)]
      simp only [h4, decide_false, cond_false]
      by_cases h5 : c - bas g < 24
      · simp only [h5, decide_true, cond_true, vr]
        congr 1
        symm
        rw [decide_eq_false_iff_not]
        rintro (⟨h, _⟩ | ⟨_, _, h, _⟩)
        · exact h3 h
        · omega
      · simp only [h5, decide_false, cond_false]
        by_cases h6 : c - bas g > 4096
        · simp only [h6, decide_true, cond_true, vr]
          congr 1
          symm
          rw [decide_eq_false_iff_not]
          rintro (⟨h, _⟩ | ⟨_, _, _, h, _⟩)
          · exact h3 h
          · omega
        · simp only [h6, decide_false, cond_false]
          have c1 : bas g + 24 ≤ c := by omega
          have c2 : c ≤ bas g + 4096 := by omega
          by_cases h7 : (c - bas g) % 8 = 0
          · have c3 : c % 8 = 0 := by omega
            by_cases q1 : a = 2
            · cases hq : codeOK b <;> cases hd : recOK d <;> cases he : recOK e <;> simp [Bool.cond_eq_ite, vr, h7, q1, hq, hd, he, c1, c2, c3]
            · by_cases q2 : a = 1
              · by_cases q3 : f = 0
                · cases hq : codeOK b <;> cases hd : recOK d <;> cases he : recOK e <;> simp [Bool.cond_eq_ite, vr, h7, q2, q3, hq, hd, he, c1, c2, c3]
                · simp [Bool.cond_eq_ite, vr, h7, q2, q3]
              · simp [Bool.cond_eq_ite, vr, h7, q1, q2, h3]
          · have c3 : ¬ c % 8 = 0 := by omega
            simp [Bool.cond_eq_ite, vr, h7, h3, c3]
theorem f31_ok (N : Nat) {g : Int} (h : 0 ≤ g ∧ g < 100) {x : Routine} (hx : rok x) : F31 N (g, x) = some (vr g x) := by
  obtain ⟨a, b, c, d, e, f⟩ := x
  rw [rok_iff] at hx
  simp only at hx
  have hb : 0 ≤ bas g ∧ bas g ≤ 1700000000 := by unfold bas; omega
  have e1 : wu64 (bas g + 24) = bas g + 24 := wu64_in (by omega)
  have e2 : wu64 (bas g + 4096) = bas g + 4096 := wu64_in (by omega)
  rw [F31_eq]
  simp only [f28_ok N h, f27_ok N hx.2.1, f40_ok N hx.2.2.2.1.1, f40_ok N hx.2.2.2.2.1.1, Option.bind_some, e1, e2, tmod_nn hx.2.2.1.1]
  by_cases h1 : a = 1
  · by_cases q3 : f = 0
    · by_cases c1 : bas g + 24 ≤ c <;> by_cases c2 : c ≤ bas g + 4096 <;> by_cases c3 : c % 8 = 0 <;> cases hq : codeOK b <;> cases hd : recOK d <;> cases he : recOK e <;> simp [Bool.cond_eq_ite, vr, h1, q3, hq, hd, he, c1, c2, c3]
    · simp [Bool.cond_eq_ite, vr, h1, q3]
  · by_cases h2 : a = 2
    · by_cases c1 : bas g + 24 ≤ c <;> by_cases c2 : c ≤ bas g + 4096 <;> by_cases c3 : c % 8 = 0 <;> cases hq : codeOK b <;> cases hd : recOK d <;> cases he : recOK e <;> simp [Bool.cond_eq_ite, vr, h2, hq, hd, he, c1, c2, c3]
    · by_cases h3 : a = 3
      · by_cases q1 : b = 0 <;> by_cases q2 : c = bas g <;> by_cases q3 : d = 0 <;> by_cases q4 : e = 0 <;> by_cases q5 : f = 0 <;> simp [Bool.cond_eq_ite, vr, h3, q1, q2, q3, q4, q5]
      · simp [Bool.cond_eq_ite, vr, h1, h2, h3]

/-- all are valid, from a number on -/
def vrs : Int → List Routine → Bool
  | _, [] => true
  | g, x :: r => vr g x && vrs (g + 1) r
theorem loop13 (N : Nat) : ∀ (r pre : List Routine) (k : Nat) (l : List Routine), l = pre ++ r → l.length ≤ 50 → (∀ x ∈ l, rok x) → r.length < k → f13.L0_6 N k (l, (l.length : Int), (pre.length : Int)) = some (if vrs pre.length r then .inr () else .inl 8)
  | [], pre, k + 1, l, hl, hn, _, _ => by
    rw [f13.L0_6_succ]
    subst hl
    simp [vrs]
  | x :: r, pre, k + 1, l, hl, hn, hr, hk => by
    rw [f13.L0_6_succ]
    have hlen : l.length = pre.length + (r.length + 1) := by subst hl; simp
    have h1 : (pre.length : Int) < (l.length : Int) := by omega
    rw [decide_eq_true h1, cond_true, idx_mid' hl rfl, Option.bind_some, f30_ok N (by omega) (hr x (by subst hl; simp)), Option.bind_some]
    have e1 : wi64 ((pre.length : Int) + 1) = ((pre ++ [x]).length : Int) := by rw [wi64_in (by omega)]; simp
    rw [e1]
    cases hv : vr pre.length x with
    | false => simp [vrs, hv]
    | true =>
      simp only [Bool.not_true, cond_false]
      rw [loop13 N r (pre ++ [x]) k l (by subst hl; simp) hn hr (by simp at hk; omega)]
      simp [vrs, hv]
theorem loop14 (N : Nat) : ∀ (r pre : List Routine) (k : Nat) (l : List Routine), l = pre ++ r → l.length ≤ 50 → (∀ x ∈ l, rok x) → r.length < k → f14.L0_6 N k (l, (pre.length : Int)) = some (if vrs pre.length r then .inr () else .inl 8)
  | [], pre, k + 1, l, hl, hn, _, _ => by
    rw [f14.L0_6_succ]
    subst hl
    simp [vrs]
  | x :: r, pre, k + 1, l, hl, hn, hr, hk => by
    rw [f14.L0_6_succ]
    have hlen : l.length = pre.length + (r.length + 1) := by subst hl; simp
    have h1 : (pre.length : Int) < (l.length : Int) := by omega
    rw [decide_eq_true h1, cond_true, idx_mid' hl rfl, Option.bind_some, f31_ok N (by omega) (hr x (by subst hl; simp)), Option.bind_some]
    have e1 : wi64 ((pre.length : Int) + 1) = ((pre ++ [x]).length : Int) := by rw [wi64_in (by omega)]; simp
    rw [e1]
    cases hv : vr pre.length x with
    | false => simp [vrs, hv]
    | true =>
      simp only [Bool.not_true, cond_false]
      rw [loop14 N r (pre ++ [x]) k l (by subst hl; simp) hn hr (by simp at hk; omega)]
      simp [vrs, hv]

/-- the error of a list -/
def chkS (l : List Routine) : Int := if 1 ≤ l.length ∧ l.length ≤ 16 ∧ vrs 0 l = true then 0 else 8
theorem f13_ok (N : Nat) (hN : 50 < N) (l : List Routine) (hr : ∀ x ∈ l, rok x) : F13 N l = some (chkS l) := by
  rw [F13_eq]
  by_cases h1 : (l.length : Int) < 1
  · rw [decide_eq_true h1, cond_true, chkS, if_neg (by omega)]
  · rw [decide_eq_false h1, cond_false]
    by_cases h2 : (l.length : Int) > 16
    · rw [decide_eq_true h2, cond_true, chkS, if_neg (by omega)]
    · rw [decide_eq_false h2, cond_false]
      have := loop13 N l [] N l rfl (by omega) hr (by omega)
      simp only [List.length_nil, Int.ofNat_zero] at this
      rw [this, Option.bind_some]
      unfold chkS
      cases hv : vrs 0 l with
      | true => simp; omega
      | false => simp
theorem f14_ok (N : Nat) (hN : 50 < N) (l : List Routine) (hr : ∀ x ∈ l, rok x) : F14 N l = some (chkS l) := by
  rw [F14_eq]
  by_cases h1 : (l.length : Int) = 0
  · rw [show ((l.length : Int) == 0) = true from by simpa using h1, cond_true, chkS, if_neg (by omega)]
  · rw [show ((l.length : Int) == 0) = false from by simpa using h1, cond_false]
    by_cases h2 : (l.length : Int) > 16
    · rw [decide_eq_true h2, cond_true, chkS, if_neg (by omega)]
    · rw [decide_eq_false h2, cond_false]
      have := loop14 N l [] N l rfl (by omega) hr (by omega)
      simp only [List.length_nil, Int.ofNat_zero] at this
      rw [this, Option.bind_some]
      unfold chkS
      cases hv : vrs 0 l with
      | true => simp; omega
      | false => simp

/-- the numbers of those that are ready -/
def rdy : Int → List Routine → List Int
  | _, [] => []
  | g, x :: r => if x.1 = 1 then g :: rdy (g + 1) r else rdy (g + 1) r
theorem rdy_length : ∀ (g : Int) (r : List Routine), (rdy g r).length ≤ r.length
  | _, [] => Nat.le_refl _
  | g, x :: r => by
    have := rdy_length (g + 1) r
    unfold rdy
    split <;> simp <;> omega
theorem loop11 (N : Nat) : ∀ (r pre : List Routine) (k : Nat) (l : List Routine) (acc : List Int), l = pre ++ r → l.length ≤ 50 → acc.length ≤ pre.length → r.length < k → f11.L0_8 N k (acc, l, (l.length : Int), (pre.length : Int)) = some (acc ++ rdy pre.length r)
  | [], pre, k + 1, l, acc, hl, hn, _, _ => by
    rw [f11.L0_8_succ]
    subst hl
    simp [rdy]
  | x :: r, pre, k + 1, l, acc, hl, hn, ha, hk => by
    rw [f11.L0_8_succ]
    have hlen : l.length = pre.length + (r.length + 1) := by subst hl; simp
    have h1 : (pre.length : Int) < (l.length : Int) := by omega
    rw [decide_eq_true h1, cond_true, idx_mid' hl rfl, Option.bind_some]
    have e1 : wi64 ((pre.length : Int) + 1) = ((pre ++ [x]).length : Int) := by rw [wi64_in (by omega)]; simp
    rw [e1]
    by_cases hx : x.1 = 1
    · rw [show (x.1 == 1) = true from by simpa using hx, cond_true, chk_of (room_of (by omega) (by omega))]
      rw [loop11 N r (pre ++ [x]) k l _ (by subst hl; simp) hn (by simp; omega) (by simp at hk; omega)]
      simp [rdy, hx]
    · rw [show (x.1 == 1) = false from by simpa using hx, cond_false]
      rw [loop11 N r (pre ++ [x]) k l _ (by subst hl; simp) hn (by simp; omega) (by simp at hk; omega)]
      simp [rdy, hx]
theorem loop29 (N : Nat) : ∀ (r pre : List Routine) (k : Nat) (l : List Routine) (acc : List Int), l = pre ++ r → l.length ≤ 50 → acc.length ≤ pre.length → r.length < k → f29.L0_4 N k (l, acc, (pre.length : Int)) = some (acc ++ rdy pre.length r)
  | [], pre, k + 1, l, acc, hl, hn, _, _ => by
    rw [f29.L0_4_succ]
    subst hl
    simp [rdy]
  | x :: r, pre, k + 1, l, acc, hl, hn, ha, hk => by
    rw [f29.L0_4_succ]
    have hlen : l.length = pre.length + (r.length + 1) := by subst hl; simp
    have h1 : (pre.length : Int) < (l.length : Int) := by omega
    rw [decide_eq_true h1, cond_true, idx_mid' hl rfl, Option.bind_some]
    have e1 : wi64 ((pre.length : Int) + 1) = ((pre ++ [x]).length : Int) := by rw [wi64_in (by omega)]; simp
    rw [e1]
    by_cases hx : x.1 = 1
    · rw [show (x.1 == 1) = true from by simpa using hx, cond_true, chk_of (room_of (by omega) (by omega))]
      rw [loop29 N r (pre ++ [x]) k l _ (by subst hl; simp) hn (by simp; omega) (by simp at hk; omega)]
      simp [rdy, hx]
    · rw [show (x.1 == 1) = false from by simpa using hx, cond_false]
      rw [loop29 N r (pre ++ [x]) k l _ (by subst hl; simp) hn (by simp; omega) (by simp at hk; omega)]
      simp [rdy, hx]
def rdyS (l : List Routine) : List Int × Int := if chkS l = 0 then (rdy 0 l, 0) else ([], 8)
theorem chkS_cases (l : List Routine) : chkS l = 0 ∧ l.length ≤ 16 ∧ 1 ≤ l.length ∧ vrs 0 l = true ∨ chkS l = 8 := by
  unfold chkS
  split
  · rename_i h; exact .inl ⟨rfl, h.2.1, h.1, h.2.2⟩
  · exact .inr rfl
theorem f11_ok (N : Nat) (hN : 50 < N) (l : List Routine) (hr : ∀ x ∈ l, rok x) : F11 N l = some (rdyS l) := by
  rw [F11_eq, f13_ok N hN l hr, Option.bind_some]
  rcases chkS_cases l with ⟨h, h1, _⟩ | h
  · have := loop11 N l [] N l [] rfl (by omega) (by simp) (by omega)
    simp only [List.length_nil, Int.ofNat_zero, List.nil_append] at this
    simp [rdyS, h, this]
  · simp [rdyS, h]
theorem f12_ok (N : Nat) (hN : 50 < N) (l : List Routine) (hr : ∀ x ∈ l, rok x) : F12 N l = some (rdyS l) := by
  rw [F12_eq, f14_ok N hN l hr, Option.bind_some]
  rcases chkS_cases l with ⟨h, h1, _⟩ | h
  · have := loop29 N l [] N l [] rfl (by omega) (by simp) (by omega)
    simp only [List.length_nil, Int.ofNat_zero, List.nil_append] at this
    simp [rdyS, h, F29_eq, this]
  · simp [rdyS, h]
theorem loop15 (N : Nat) : ∀ (r pre : List Int) (k : Nat) (l : List Int), l = pre ++ r → l.length ≤ 1000 → r.length < k → f15.L0_6 N k (l, l, (pre.length : Int)) = some (.inr ())
  | [], pre, k + 1, l, hl, hn, _ => by
    rw [f15.L0_6_succ]
    subst hl
    simp
  | x :: r, pre, k + 1, l, hl, hn, hk => by
    rw [f15.L0_6_succ]
    have hlen : l.length = pre.length + (r.length + 1) := by subst hl; simp
    have h1 : (pre.length : Int) < (l.length : Int) := by omega
    rw [decide_eq_true h1, cond_true, idx_mid' hl rfl, Option.bind_some, Option.bind_some]
    have e1 : wi64 ((pre.length : Int) + 1) = ((pre ++ [x]).length : Int) := by rw [wi64_in (by omega)]; simp
    rw [e1]
    simp only [bne_self_eq_false, cond_false]
    exact loop15 N r (pre ++ [x]) k l (by subst hl; simp) hn (by simp at hk; omega)
theorem f15_same (N : Nat) (l : List Int) (h : l.length < N) (h' : l.length ≤ 1000) : F15 N (l, l) = some true := by
  rw [F15_eq]
  have := loop15 N l [] N l rfl h' h
  simp only [List.length_nil, Int.ofNat_zero] at this
  simp [this]

theorem f9_f10 (N : Nat) (g : Int) {code : Int} (hc : 0 ≤ code ∧ code ≤ 18446744073709551615) (n : Int) : ∃ y, F9 N (g, code, n) = some y ∧ F10 N (g, code, n) = some y := by
  rw [F9_eq, F10_eq, f25_ok, f27_ok N hc]
  simp only [Option.bind_some]
  by_cases h1 : g < 0
  · simp [h1]
  · by_cases h2 : g ≥ 16
    · simp [h2]
    · rw [f26_ok N (by omega), f28_ok N (by omega)]
      cases codeOK code with
      | false => simp
      | true =>
        by_cases h3 : n < 24
        · simp [Bool.cond_eq_ite, h1, h2, h3]
        · by_cases h4 : n > 4096
          · simp [Bool.cond_eq_ite, h1, h2, h3, h4]
          · by_cases h5 : Int.tmod n 8 = 0 <;> simp [Bool.cond_eq_ite, h1, h2, h3, h4, h5]

theorem makes_ok (g : Int) {code : Int} (hc : 0 ≤ code ∧ code ≤ 18446744073709551615) (n : Int) (l : List Routine) (hr : ∀ x ∈ l, rok x) : F3 100 (g, code, n, l) = some true := by
  rw [F3_eq]
  by_cases h : (l.length : Int) > 20
  · simp [h]
  · obtain ⟨y, h1, h2⟩ := f9_f10 100 g hc n
    have h3 : (rdyS l).1.length ≤ l.length := by
      unfold rdyS
      split
      · exact rdy_length _ _
      · simp
    rw [decide_eq_false h, cond_false, h1, h2, f11_ok 100 (by omega) l hr, f12_ok 100 (by omega) l hr, f13_ok 100 (by omega) l hr, f14_ok 100 (by omega) l hr]
    simp only [Option.bind_some, f15_same 100 (rdyS l).1 (by omega) (by omega)]
    simp
theorem makes_law : ∀ x, okL [.int .i64, .int .u64, .int .i64, .sl TRoutine] x → F3 100 x = some true := by
  rintro ⟨g, code, n, l⟩ h
  simp only [okL, unpack, okD_cons, okD_nil, and_true] at h
  exact makes_ok g h.2.1 n l h.2.2.2.2
end Go.Proofs.Ytkdjilgpknecfaa
