/- The differences of states: what is not great. -/
import Derived.Test.YtdefleeofgekkaaLaw43a
namespace Go.Proofs.Ytdefleeofgekkaa
open Go Go.Eng Go.Sym
open Classical

def okFr (f : FrameState) : Prop := f.2.2.2.length ≤ 20 ∧ ∀ l ∈ f.2.2.2, okV 14 l.2
def okDe (d : DeferState) : Prop := okV 14 d.2.2.2
def okPa (p : PanicState) : Prop := okV 14 p.2.1
def okR (r : RoutineState) : Prop := r.2.2.1.length ≤ 12 ∧ r.2.2.2.1.length ≤ 12 ∧ r.2.2.2.2.length ≤ 20 ∧ (∀ f ∈ r.2.2.1, okFr f) ∧ (∀ d ∈ r.2.2.2.1, okDe d) ∧ ∀ p ∈ r.2.2.2.2, okPa p
def okS (s : State) : Prop := s.2.2.2.length ≤ 20 ∧ ∀ r ∈ s.2.2.2, okR r

theorem f50_ok (N : Nat) (hN : 1000 ≤ N) (l : List PanicState) (hl : l.length ≤ 20) : ∃ b, F50 N l = some b ∧ (b = false → ∀ p ∈ l, okPa p) := by
  rw [F50_eq, decide_eq_false (show ¬ (l.length : Int) > 20 by omega), cond_false, decide_eq_false (show ¬ (l.length : Int) > 420 by omega), cond_false]
  rcases loop_find (l := l) (n := l.length) (a := (.inr () : Bool ⊕ Unit)) (b := .inl true) (P := okPa) (Lf := fun k i => f50.L0_6 N k (l, i)) (Nat.le_refl _)
    (fun k => by simp only [f50.L0_6_succ, ge_dec, cond_false]) (fun k i x hi _ hx => by
      obtain ⟨b, h1, h2⟩ := f52_ok N (by omega) x.2.1
      simp only [f50.L0_6_succ, lt_dec hi, cond_true, idx_get hx, Option.bind_some, h1, wi64_succ (show i < 9223372036854775807 by omega)]
      cases b with
      | true => exact .inl rfl
      | false => exact .inr ⟨h2 rfl, rfl⟩) N (by omega) with h | ⟨h, h2⟩
  · rw [h]; exact ⟨true, rfl, fun h => by cases h⟩
  · rw [h]; exact ⟨false, rfl, fun _ => all_of_get (Nat.le_refl _) h2⟩

theorem f51_ok (N : Nat) (hN : 1000 ≤ N) (f : FrameState) : ∃ b, F51 N f = some b ∧ (b = false → okFr f) := by
  obtain ⟨p0, p1, p2, l⟩ := f
  rw [F51_eq]
  have hn : min l.length 21 ≤ l.length := Nat.min_le_left _ _
  rcases loop_find (l := l) (n := min l.length 21) (a := (.inr (p0, p1, p2, l) : Bool ⊕ (Int × Int × Int × List Local))) (b := .inl true) (P := fun x => okV 14 x.2) (Lf := fun k i => f51.L0_3 N k (i, p0, p1, p2, l)) hn
    (fun k => by
      simp only [f51.L0_3_succ]
      by_cases h : l.length ≤ 21
      · rw [Nat.min_eq_left h, ge_dec, cond_false]
      · rw [Nat.min_eq_right (by omega), decide_eq_true (show ((21 : Nat) : Int) < l.length by omega), cond_true]
        rfl) (fun k i x hi _ hx => by
      obtain ⟨b, h1, h2⟩ := f52_ok N (by omega) x.2
      simp only [f51.L0_3_succ, lt_dec (show i < l.length by omega), cond_true, decide_eq_true (show (i : Int) ≤ 20 by omega), idx_get hx, Option.bind_some, h1, wi64_succ (show i < 9223372036854775807 by omega)]
      cases b with
      | true => exact .inl rfl
      | false => exact .inr ⟨h2 rfl, rfl⟩) N (by omega) with h | ⟨h, h2⟩
  · rw [h]; exact ⟨true, rfl, fun h => by cases h⟩
  · rw [h]
    refine ⟨_, rfl, fun hb => ?_⟩
    have hb : l.length ≤ 20 := by
      have h3 : ¬ (l.length : Int) > 20 := of_decide_eq_false hb
      omega
    exact ⟨hb, all_of_get (l := l) (n := min l.length 21) (by omega) h2⟩

theorem f24_ok (N : Nat) (hN : 1000 ≤ N) (r : RoutineState) : ∃ b, F24 N r = some b ∧ (b = false → okR r) := by
  obtain ⟨p0, p1, fs, ds, ps⟩ := r
  rw [F24_eq]
  by_cases h1 : (fs.length : Int) > 12
  · rw [decide_eq_true h1, cond_true]; exact ⟨true, rfl, fun h => by cases h⟩
  · rw [decide_eq_false h1, cond_false]
    by_cases h2 : (ds.length : Int) > 12
    · rw [decide_eq_true h2, cond_true]; exact ⟨true, rfl, fun h => by cases h⟩
    · rw [decide_eq_false h2, cond_false]
      by_cases h3 : (ps.length : Int) > 20
      · rw [decide_eq_true h3, cond_true]; exact ⟨true, rfl, fun h => by cases h⟩
      · rw [decide_eq_false h3, cond_false]
        obtain ⟨b, hb, hb2⟩ := f50_ok N hN ps (by omega)
        rw [hb, Option.bind_some]
        cases b with
        | true => exact ⟨true, rfl, fun h => by cases h⟩
        | false =>
          rw [cond_false]
          rcases loop_find (l := fs) (n := fs.length) (a := (.inr (p0, p1, fs, ds, ps) : Bool ⊕ (Int × Int × List FrameState × List DeferState × List PanicState))) (b := .inl true) (P := okFr) (Lf := fun k i => f24.L0_6 N k (i, p0, p1, fs, ds, ps)) (Nat.le_refl _)
            (fun k => by simp only [f24.L0_6_succ, ge_dec, cond_false]) (fun k i x hi _ hx => by
              obtain ⟨b, h1, h2⟩ := f51_ok N (by omega) x
              simp only [f24.L0_6_succ, lt_dec hi, cond_true, idx_get hx, Option.bind_some, wi64_succ (show i < 9223372036854775807 by omega)]
              rw [h1]
              cases b with
              | true => exact .inl rfl
              | false => exact .inr ⟨h2 rfl, rfl⟩) N (by omega) with h | ⟨h, hf⟩
          · rw [h]; exact ⟨true, rfl, fun h => by cases h⟩
          · rw [h, Option.bind_some]
            rcases loop_find (l := ds) (n := ds.length) (a := (.inr () : Bool ⊕ Unit)) (b := .inl true) (P := okDe) (Lf := fun k i => f24.L0_16 N k (i, p0, p1, fs, ds, ps)) (Nat.le_refl _)
              (fun k => by simp only [f24.L0_16_succ, ge_dec, cond_false]) (fun k i x hi _ hx => by
                obtain ⟨b, h1, h2⟩ := f52_ok N (by omega) x.2.2.2
                simp only [f24.L0_16_succ, lt_dec hi, cond_true, idx_get hx, Option.bind_some, wi64_succ (show i < 9223372036854775807 by omega), h1]
                cases b with
                | true => exact .inl rfl
                | false => exact .inr ⟨h2 rfl, rfl⟩) N (by omega) with h | ⟨h, hd⟩
            · simp only [h]; exact ⟨true, rfl, fun h => by cases h⟩
            · simp only [h]
              exact ⟨false, rfl, fun _ => ⟨show fs.length ≤ 12 by omega, show ds.length ≤ 12 by omega, show ps.length ≤ 20 by omega, all_of_get (Nat.le_refl _) hf, all_of_get (Nat.le_refl _) hd, hb2 rfl⟩⟩

theorem f9_ok (N : Nat) (hN : 1000 ≤ N) (s : State) : ∃ b, F9 N s = some b ∧ (b = false → okS s) := by
  obtain ⟨p0, p1, p2, l⟩ := s
  rw [F9_eq]
  have hn : min l.length 21 ≤ l.length := Nat.min_le_left _ _
  rcases loop_find (l := l) (n := min l.length 21) (a := (.inr (p0, p1, p2, l) : Bool ⊕ (Int × Int × Int × List RoutineState))) (b := .inl true) (P := okR) (Lf := fun k i => f9.L0_3 N k (i, p0, p1, p2, l)) hn
    (fun k => by
      simp only [f9.L0_3_succ]
      by_cases h : l.length ≤ 21
      · rw [Nat.min_eq_left h, ge_dec, cond_false]
      · rw [Nat.min_eq_right (by omega), decide_eq_true (show ((21 : Nat) : Int) < l.length by omega), cond_true]
        rfl) (fun k i x hi _ hx => by
      obtain ⟨b, h1, h2⟩ := f24_ok N hN x
      simp only [f9.L0_3_succ, lt_dec (show i < l.length by omega), cond_true, decide_eq_true (show (i : Int) ≤ 20 by omega), idx_get hx, Option.bind_some, wi64_succ (show i < 9223372036854775807 by omega)]
      rw [h1]
      cases b with
      | true => exact .inl rfl
      | false => exact .inr ⟨h2 rfl, rfl⟩) N (by omega) with h | ⟨h, h2⟩
  · rw [h]; exact ⟨true, rfl, fun h => by cases h⟩
  · rw [h]
    refine ⟨_, rfl, fun hb => ?_⟩
    have hb : l.length ≤ 20 := by
      have h3 : ¬ (l.length : Int) > 20 := of_decide_eq_false hb
      omega
    exact ⟨hb, all_of_get (l := l) (n := min l.length 21) (by omega) h2⟩

/- ## Fair sizes -/
theorem f45_ok (N : Nat) (r : RoutineState) (h : okR r) : F45 N r = some true := by
  obtain ⟨p0, p1, fs, ds, ps⟩ := r
  obtain ⟨h1, h2, h3, _⟩ := h
  simp only at h1 h2 h3
  rw [F45_eq, decide_eq_true (show (fs.length : Int) ≤ 170 by omega), cond_true, decide_eq_true (show (ds.length : Int) ≤ 410 by omega), cond_true, decide_eq_true (show (ps.length : Int) ≤ 410 by omega)]
theorem f57_ok (N : Nat) (r : RoutineState) (h : okR r) : F57 N r = some false := by
  obtain ⟨p0, p1, fs, ds, ps⟩ := r
  rw [F57_eq, f45_ok N _ h]; rfl
theorem f55_ok (N : Nat) (r : RoutineState) (h : okR r) : F55 N r = some true := by
  obtain ⟨p0, p1, fs, ds, ps⟩ := r
  obtain ⟨h1, h2, h3, _⟩ := h
  simp only at h1 h2 h3
  rw [F55_eq, decide_eq_true (show (fs.length : Int) ≤ 170 by omega), cond_true, decide_eq_true (show (ds.length : Int) ≤ 410 by omega), cond_true, decide_eq_true (show (ps.length : Int) ≤ 410 by omega)]
theorem loop31 (N : Nat) (hN : 1000 ≤ N) (s : State) (h : okS s) : f31.L1018001007000_3 N N (s.2.2.2, (s.2.2.2.length : Int), 0, s.1, s.2.1, s.2.2.1, s.2.2.2) = some (.inr (s.1, s.2.1, s.2.2.1, s.2.2.2)) := by
  have key := loop_up (n := s.2.2.2.length) (Lf := fun k i => f31.L1018001007000_3 N k (s.2.2.2, (s.2.2.2.length : Int), i, s.1, s.2.1, s.2.2.1, s.2.2.2)) (g := fun _ => some (.inr (s.1, s.2.1, s.2.2.1, s.2.2.2)))
    (fun k => by simp only [f31.L1018001007000_3_succ, ge_dec, cond_false]) (fun k i hi ih => by
      have hb := h.1
      simp only [f31.L1018001007000_3_succ, lt_dec hi, cond_true, idx_get (List.getElem?_eq_getElem hi), Option.bind_some, wi64_succ (show i < 9223372036854775807 by omega)]
      have := f57_ok N s.2.2.2[i] (h.2 _ (List.getElem_mem hi))
      rw [this, Option.bind_some, cond_false]
      exact ih) N 0 (by omega) (by have := h.1; omega)
  simpa using key
def wholeB (s : State) : Bool := decide (s.2.2.2.length ≤ 16)
theorem f31_ok (N : Nat) (hN : 1000 ≤ N) (l : List State) (hl : l.length ≤ 2) (h : ∀ s ∈ l, okS s) : F31 N l = some (l.all wholeB) := by
  rw [F31_eq]
  have key := loop_any (l := l) (a := (.inr () : Bool ⊕ Unit)) (b := .inl false) (p := fun s => !wholeB s) (Lf := fun k i => f31.L0_3 N k (l, (l.length : Int), i))
    (fun k => by simp only [f31.L0_3_succ, ge_dec, cond_false]) (fun k i x hx hi => by
      have hi' := (List.getElem?_eq_some_iff.1 hi).1
      simp only [f31.L0_3_succ, lt_dec hi', cond_true, idx_get hi, Option.bind_some, wi64_succ (show i < 9223372036854775807 by omega)]
      by_cases h1 : x.2.2.2.length ≤ 16
      · rw [decide_eq_false (show ¬ (x.2.2.2.length : Int) > 16 by omega), cond_false, loop31 N hN x (h x hx), Option.bind_some]
        simp [wholeB, h1]
      · rw [decide_eq_true (show (x.2.2.2.length : Int) > 16 by omega), cond_true]
        simp [wholeB, h1]) N (by omega)
  rw [key, Option.bind_some]
  have : l.any (fun s => !wholeB s) = !l.all wholeB := by rw [List.all_eq_not_any_not]; simp
  rw [this]
  cases l.all wholeB <;> rfl
theorem f34_ok (N : Nat) (hN : 1000 ≤ N) (s : State) (h : okS s) : F34 N s = some (wholeB s) := by
  obtain ⟨p0, p1, p2, l⟩ := s
  rw [F34_eq]
  have key := loop_up (n := l.length) (Lf := fun k i => f34.L0_3 N k (i, p0, p1, p2, l)) (g := fun _ => some (.inr (p0, p1, p2, l)))
    (fun k => by simp only [f34.L0_3_succ, ge_dec, cond_false]) (fun k i hi ih => by
      have hb := h.1
      simp only at hb
      simp only [f34.L0_3_succ, lt_dec hi, cond_true, idx_get (List.getElem?_eq_getElem hi), Option.bind_some, wi64_succ (show i < 9223372036854775807 by omega)]
      have := f55_ok N l[i] (h.2 _ (List.getElem_mem hi))
      rw [this, Option.bind_some, Bool.not_true, cond_false]
      exact ih) N 0 (by omega) (by have := h.1; simp only at this; omega)
  simp only [Int.ofNat_zero] at key
  rw [key, Option.bind_some]
  simp only [wholeB]
  congr 1
  rw [decide_eq_decide]
  omega
end Go.Proofs.Ytdefleeofgekkaa
