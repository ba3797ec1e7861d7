/- r43: what the functions compute, in plain words. -/
import Derived.Test.YtdefleeofgekkaaGen43k
import Derived.Test.YtdefleeofgekkaaPlain
import Derived.Test.YtdefleeofgekkaaSymO
namespace Go.Proofs.Ytdefleeofgekkaa
open Go Go.Eng Go.Sym
open Classical

/-- what is not great: so deep at most, lists and texts of fair length -/
def okV : Nat → Val → Prop
  | 0, _ => False
  | d + 1, v => v.text.length ≤ 100 ∧ v.list.length ≤ 400 ∧ ∀ w ∈ v.list, okV d w

theorem f78_ok : ∀ (N d : Nat) (v : Val), 500 + d ≤ N → d ≤ 100 → F78 N (v.kind, v.int, v.text, v.list, v.cut, (d : Int)) = some (!decide (okV d v))
  | 0, d, v, h, _ => by omega
  | N + 1, 0, v, h, _ => by
    rw [F78_eq, decide_eq_false (show ¬ okV 0 v from fun h => h)]
    rfl
  | N + 1, d + 1, v, h, hd => by
    rw [F78_eq]
    have e0 : (((d + 1 : Nat) : Int) == 0) = false := by simp; omega
    rw [e0, cond_false]
    by_cases h1 : (v.text.length : Int) > 100
    · rw [decide_eq_true h1, cond_true]
      have : ¬ okV (d + 1) v := fun h => by have := h.1; omega
      simp [this]
    · rw [decide_eq_false h1, cond_false]
      by_cases h2 : (v.list.length : Int) > 400
      · rw [decide_eq_true h2, cond_true]
        have : ¬ okV (d + 1) v := fun h => by have := h.2.1; omega
        simp [this]
      · rw [decide_eq_false h2, cond_false]
        have key := loop_any (l := v.list) (a := (.inr () : Bool ⊕ Unit)) (b := .inl true) (p := fun w => !decide (okV d w)) (Lf := fun k i => f78.L0_6 N (F78 N) k (((d + 1 : Nat) : Int), i, v.kind, v.int, v.text, v.list, v.cut))
          (fun k => by simp only [f78.L0_6_succ, ge_dec, cond_false]) (fun k i x hx hi => by
            have hi' := (List.getElem?_eq_some_iff.1 hi).1
            have e1 : wi64 (((d + 1 : Nat) : Int) - 1) = (d : Int) := by rw [wi64_in (by omega)]; omega
            simp only [f78.L0_6_succ, lt_dec hi', cond_true, idx_get hi, Option.bind_some, e1, f78_ok N d x (by omega) (by omega), wi64_succ (show i < 9223372036854775807 by omega)]
            cases decide (okV d x) <;> rfl) N (by omega)
        rw [key, Option.bind_some]
        by_cases h3 : ∀ w ∈ v.list, okV d w
        · have : okV (d + 1) v := ⟨by omega, by omega, h3⟩
          have h4 : v.list.any (fun w => !decide (okV d w)) = false := by rw [List.any_eq_false]; intro w hw; simp [h3 w hw]
          simp [this, h4]
        · have : ¬ okV (d + 1) v := fun h => h3 h.2.2
          have h4 : v.list.any (fun w => !decide (okV d w)) = true := by
            rw [List.any_eq_true]
            simp only [not_forall] at h3
            obtain ⟨w, hw, h3⟩ := h3
            exact ⟨w, hw, by simp [h3]⟩
          simp [this, h4]

theorem f79_tot : ∀ (N d : Nat) (v : Val), 500 + d ≤ N → okV d v → ∃ n, F79 N (v.kind, v.int, v.text, v.list, v.cut) = some n
  | 0, d, v, h, _ => by omega
  | N + 1, 0, v, _, h => h.elim
  | N + 1, d + 1, v, h, hv => by
    rw [F79_eq]
    have key := loop_st (n := v.list.length) (I := fun _ _ => True) (Lf := fun k i (s : Int) => (f79.L0_4 N (F79 N) k (s, i, v.kind, v.int, v.text, v.list, v.cut)).map fun _ => ()) (g := fun _ _ => some ())
      (fun k s _ => by simp only [f79.L0_4_succ, ge_dec, cond_false, Option.map_some]) (fun k i s hi _ ih => by
        simp only [f79.L0_4_succ, lt_dec hi, cond_true]
        by_cases h1 : s ≤ 5000
        · obtain ⟨n, hn⟩ := f79_tot N d v.list[i] (by omega) (hv.2.2 _ (List.getElem_mem hi))
          have := hv.2.1
          simp only [decide_eq_true h1, cond_true, idx_get (List.getElem?_eq_getElem hi), Option.bind_some, hn, wi64_succ (show i < 9223372036854775807 by omega), ih _ trivial]
        · simp only [decide_eq_false h1, cond_false, Option.map_some]) N 0 1 trivial (by omega) (by have := hv.2.1; omega)
    simp only [Int.ofNat_zero] at key
    cases hq : f79.L0_4 N (F79 N) N (1, 0, v.kind, v.int, v.text, v.list, v.cut) with
    | none => rw [hq] at key; cases key
    | some n => exact ⟨n, rfl⟩

/-- great, or not: then it is small -/
theorem f52_ok (N : Nat) (hN : 600 ≤ N) (v : Val) : ∃ b, F52 N (v.kind, v.int, v.text, v.list, v.cut) = some b ∧ (b = false → okV 14 v) := by
  rw [F52_eq]
  have h1 := f78_ok N 14 v (by omega) (by omega)
  have e : ((14 : Nat) : Int) = 14 := rfl
  rw [e] at h1
  rw [h1, Option.bind_some]
  by_cases h : okV 14 v
  · obtain ⟨n, hn⟩ := f79_tot N 14 v (by omega) h
    simp only [h, decide_true, Bool.not_true, cond_false, hn, Option.bind_some]
    exact ⟨_, rfl, fun _ => trivial⟩
  · simp only [h, decide_false, Bool.not_false, cond_true]
    exact ⟨true, rfl, fun h => by cases h⟩

theorem val_ext {v w : Val} : v = w ↔ v.kind = w.kind ∧ v.int = w.int ∧ v.text = w.text ∧ v.cut = w.cut ∧ v.list = w.list := by
  cases v; cases w
  simp only [Val.mk.injEq, Val.kind, Val.int, Val.text, Val.cut, Val.list]
  exact ⟨fun ⟨a, b, c, d, e⟩ => ⟨a, b, c, e, d⟩, fun ⟨a, b, c, d, e⟩ => ⟨a, b, c, e, d⟩⟩

theorem f83_ok : ∀ (N d : Nat) (v w : Val), 500 + d ≤ N → okV d v → F83 N (v.kind, v.int, v.text, v.list, v.cut, w.kind, w.int, w.text, w.list, w.cut) = some (decide (v = w))
  | 0, d, v, w, h, _ => by omega
  | N + 1, 0, v, w, _, h => h.elim
  | N + 1, d + 1, v, w, h, hv => by
    rw [F83_eq]
    simp only [val_ext (v := v) (w := w)]
    by_cases h1 : v.kind = w.kind
    · by_cases h2 : v.int = w.int
      · by_cases h3 : v.text = w.text
        · by_cases h4 : v.cut = w.cut
          · simp only [h1, h2, h3, h4, beq_self_eq_true, cond_true, true_and]
            by_cases h5 : v.list.length = w.list.length
            · have e : ((v.list.length : Int) != (w.list.length : Int)) = false := by simp [h5]
              rw [e, cond_false]
              have hb := hv.2.1
              have key := loop_eq (l := v.list) (m := w.list) (a := (.inr () : Bool ⊕ Unit)) (b := .inl false) (Lf := fun k i => f83.L1036000_6 N (F83 N) k (w.list, v.list, (v.list.length : Int), i)) h5
                (fun k => by simp only [f83.L1036000_6_succ, ge_dec, cond_false]) (fun k i x y hx hy hi hj => by
                  have hi' := (List.getElem?_eq_some_iff.1 hi).1
                  simp only [f83.L1036000_6_succ, lt_dec hi', cond_true, idx_get hi, idx_get hj, Option.bind_some, f83_ok N d x y (by omega) (hv.2.2 x hx), wi64_succ (show i < 9223372036854775807 by omega)]
                  by_cases hxy : x = y <;> simp [hxy]) N (by omega)
              rw [key, Option.bind_some]
              by_cases h6 : v.list = w.list <;> simp [h6]
            · have e : ((v.list.length : Int) != (w.list.length : Int)) = true := by simp; omega
              rw [e, cond_true]
              have : ¬ v.list = w.list := fun h => h5 (by rw [h])
              simp [this]
          · simp [h1, h2, h3, h4, Bool.cond_eq_ite]
        · simp [h1, h2, h3, Bool.cond_eq_ite]
      · simp [h1, h2, Bool.cond_eq_ite]
    · simp [h1, Bool.cond_eq_ite]
theorem f49_ok : ∀ (N d : Nat) (v w : Val), 500 + d ≤ N → okV d v → F49 N (v.kind, v.int, v.text, v.list, v.cut, w.kind, w.int, w.text, w.list, w.cut) = some (decide (v = w))
  | 0, d, v, w, h, _ => by omega
  | N + 1, 0, v, w, _, h => h.elim
  | N + 1, d + 1, v, w, h, hv => by
    rw [F49_eq]
    simp only [val_ext (v := v) (w := w)]
    by_cases h1 : v.kind = w.kind
    · by_cases h2 : v.int = w.int
      · by_cases h3 : v.text = w.text
        · by_cases h4 : v.cut = w.cut
          · simp only [h1, h2, h3, h4, beq_self_eq_true, Bool.not_true, bne_self_eq_false, cond_false, true_and]
            by_cases h5 : v.list.length = w.list.length
            · have e : ((v.list.length : Int) != (w.list.length : Int)) = false := by simp [h5]
              rw [e, cond_false]
              have hb := hv.2.1
              have key := loop_eq (l := v.list) (m := w.list) (a := (.inr () : Bool ⊕ Unit)) (b := .inl false) (Lf := fun k i => f49.L0_6 N (F49 N) k (i, w.kind, w.int, w.text, v.list, w.cut, w.kind, w.int, w.text, w.list, w.cut)) h5
                (fun k => by simp only [f49.L0_6_succ, ge_dec, cond_false]) (fun k i x y hx hy hi hj => by
                  have hi' := (List.getElem?_eq_some_iff.1 hi).1
                  simp only [f49.L0_6_succ, lt_dec hi', cond_true, idx_get hi, idx_get hj, Option.bind_some, f49_ok N d x y (by omega) (hv.2.2 x hx), wi64_succ (show i < 9223372036854775807 by omega)]
                  by_cases hxy : x = y <;> simp [hxy]) N (by omega)
              rw [key, Option.bind_some]
              by_cases h6 : v.list = w.list <;> simp [h6]
            · have e : ((v.list.length : Int) != (w.list.length : Int)) = true := by simp; omega
              rw [e, cond_true]
              have : ¬ v.list = w.list := fun h => h5 (by rw [h])
              simp [this]
          · simp [h1, h2, h3, h4, Bool.cond_eq_ite]
        · simp [h1, h2, h3, Bool.cond_eq_ite]
      · simp [h1, h2, Bool.cond_eq_ite]
    · simp [h1, Bool.cond_eq_ite]
theorem f68_ok : ∀ (N d : Nat) (v : Val), 500 + d ≤ N → okV d v → F68 N (v.kind, v.int, v.text, v.list, v.cut) = some (v.kind, v.int, v.text, v.list, v.cut)
  | 0, d, v, h, _ => by omega
  | N + 1, 0, v, _, h => h.elim
  | N + 1, d + 1, v, h, hv => by
    have hb := hv.2.1
    rw [F68_eq, chk_of (room_of (by omega) (by omega))]
    have key := loop_up (n := v.list.length) (Lf := fun k i => f68.L0_4 N (F68 N) k ((v.list.length : Int), i, v.kind, v.int, v.text, v.cut, v.list, 0, 0, [], false)) (g := fun _ => some (v.kind, v.int, v.text, v.cut, v.list, 0, 0, [], false))
      (fun k => by simp only [f68.L0_4_succ, ge_dec, cond_false]) (fun k i hi ih => by
        have hi' := List.getElem?_eq_getElem hi
        have ex : Val.mk v.list[i].kind v.list[i].int v.list[i].text v.list[i].list v.list[i].cut = v.list[i] := by cases v.list[i]; rfl
        simp only [f68.L0_4_succ, lt_dec hi, cond_true, chk_of (inR_lt hi), Int.toNat_natCast, hi', Option.bind_some, f68_ok N d v.list[i] (by omega) (hv.2.2 _ (List.getElem_mem hi)), wi64_succ (show i < 9223372036854775807 by omega), ex, set_self hi']
        exact ih) N 0 (by omega) (by omega)
    simp only [Int.natCast_zero] at key
    rw [key, Option.bind_some]
end Go.Proofs.Ytdefleeofgekkaa

namespace Go.Proofs.Ytdefleeofgekkaa
open Go Go.Eng Go.Sym
open Classical

def okFr (f : FrameState) : Prop := f.2.2.2.length ≤ 20 ∧ ∀ l ∈ f.2.2.2, okV 14 l.2
def okDe (d : DeferState) : Prop := okV 14 d.2.2.2
def okPa (p : PanicState) : Prop := okV 14 p.2.1
def okR (r : RoutineState) : Prop := r.2.2.1.length ≤ 12 ∧ r.2.2.2.1.length ≤ 12 ∧ r.2.2.2.2.length ≤ 20 ∧ (∀ f ∈ r.2.2.1, okFr f) ∧ (∀ d ∈ r.2.2.2.1, okDe d) ∧ ∀ p ∈ r.2.2.2.2, okPa p
def okS (s : State) : Prop := s.2.2.2.length ≤ 20 ∧ ∀ r ∈ s.2.2.2, okR r

theorem f50_ok (N : Nat) (hN : 1000 ≤ N) (l : List PanicState) (hl : l.length ≤ 20) : ∃ b, F50 N l = some b ∧ (b = false → ∀ p ∈ l, okPa p) := by
  rw [F50_eq, decide_eq_false (show ¬ (l.length : Int) > 20 by omega), cond_false, decide_eq_false (show ¬ (l.length : Int) > 420 by omega), cond_false]
  rcases loop_find (l := l) (n := l.length) (a := (.inr () : Bool ⊕ Unit)) (b := .inl true) (P := okPa) (Lf := fun k i => f50.L0_6 N k (l, i)) (Nat.le_refl _)
    (fun k => by simp only [f50.L0_6_succ, ge_dec, cond_false]) (fun k i x hi _ hx => by
      obtain ⟨b, h1, h2⟩ := f52_ok N (by omega) x.2.1
      simp only [f50.L0_6_succ, lt_dec hi, cond_true, idx_get hx, Option.bind_some, h1, wi64_succ (show i < 9223372036854775807 by omega)]
      cases b with
      | true => exact .inl rfl
      | false => exact .inr ⟨h2 rfl, rfl⟩) N (by omega) with h | ⟨h, h2⟩
  · rw [h]; exact ⟨true, rfl, fun h => by cases h⟩
  · rw [h]; exact ⟨false, rfl, fun _ => all_of_get (Nat.le_refl _) h2⟩

theorem f51_ok (N : Nat) (hN : 1000 ≤ N) (f : FrameState) : ∃ b, F51 N f = some b ∧ (b = false → okFr f) := by
  obtain ⟨p0, p1, p2, l⟩ := f
  rw [F51_eq]
  have hn : min l.length 21 ≤ l.length := Nat.min_le_left _ _
  rcases loop_find (l := l) (n := min l.length 21) (a := (.inr (p0, p1, p2, l) : Bool ⊕ (Int × Int × Int × List Local))) (b := .inl true) (P := fun x => okV 14 x.2) (Lf := fun k i => f51.L0_3 N k (i, p0, p1, p2, l)) hn
    (fun k => by
      simp only [f51.L0_3_succ]
      by_cases h : l.length ≤ 21
      · rw [Nat.min_eq_left h, ge_dec, cond_false]
      · rw [Nat.min_eq_right (by omega), decide_eq_true (show ((21 : Nat) : Int) < l.length by omega), cond_true]
        rfl) (fun k i x hi _ hx => by
      obtain ⟨b, h1, h2⟩ := f52_ok N (by omega) x.2
      simp only [f51.L0_3_succ, lt_dec (show i < l.length by omega), cond_true, decide_eq_true (show (i : Int) ≤ 20 by omega), idx_get hx, Option.bind_some, h1, wi64_succ (show i < 9223372036854775807 by omega)]
      cases b with
      | true => exact .inl rfl
      | false => exact .inr ⟨h2 rfl, rfl⟩) N (by omega) with h | ⟨h, h2⟩
  · rw [h]; exact ⟨true, rfl, fun h => by cases h⟩
  · rw [h]
    refine ⟨_, rfl, fun hb => ?_⟩
    have hb : l.length ≤ 20 := by
      have h3 : ¬ (l.length : Int) > 20 := of_decide_eq_false hb
      omega
    exact ⟨hb, all_of_get (l := l) (n := min l.length 21) (by omega) h2⟩

theorem f24_ok (N : Nat) (hN : 1000 ≤ N) (r : RoutineState) : ∃ b, F24 N r = some b ∧ (b = false → okR r) := by
  obtain ⟨p0, p1, fs, ds, ps⟩ := r
  rw [F24_eq]
  by_cases h1 : (fs.length : Int) > 12
  · rw [decide_eq_true h1, cond_true]; exact ⟨true, rfl, fun h => by cases h⟩
  · rw [decide_eq_false h1, cond_false]
    by_cases h2 : (ds.length : Int) > 12
    · rw [decide_eq_true h2, cond_true]; exact ⟨true, rfl, fun h => by cases h⟩
    · rw [decide_eq_false h2, cond_false]
      by_cases h3 : (ps.length : Int) > 20
      · rw [decide_eq_true h3, cond_true]; exact ⟨true, rfl, fun h => by cases h⟩
      · rw [decide_eq_false h3, cond_false]
        obtain ⟨b, hb, hb2⟩ := f50_ok N hN ps (by omega)
        rw [hb, Option.bind_some]
        cases b with
        | true => exact ⟨true, rfl, fun h => by cases h⟩
        | false =>
          rw [cond_false]
          rcases loop_find (l := fs) (n := fs.length) (a := (.inr (p0, p1, fs, ds, ps) : Bool ⊕ (Int × Int × List FrameState × List DeferState × List PanicState))) (b := .inl true) (P := okFr) (Lf := fun k i => f24.L0_6 N k (i, p0, p1, fs, ds, ps)) (Nat.le_refl _)
            (fun k => by simp only [f24.L0_6_succ, ge_dec, cond_false]) (fun k i x hi _ hx => by
              obtain ⟨b, h1, h2⟩ := f51_ok N (by omega) x
              simp only [f24.L0_6_succ, lt_dec hi, cond_true, idx_get hx, Option.bind_some, wi64_succ (show i < 9223372036854775807 by omega)]
              rw [h1]
              cases b with
              | true => exact .inl rfl
              | false => exact .inr ⟨h2 rfl, rfl⟩) N (by omega) with h | ⟨h, hf⟩
          · rw [h]; exact ⟨true, rfl, fun h => by cases h⟩
          · rw [h, Option.bind_some]
            rcases loop_find (l := ds) (n := ds.length) (a := (.inr () : Bool ⊕ Unit)) (b := .inl true) (P := okDe) (Lf := fun k i => f24.L0_16 N k (i, p0, p1, fs, ds, ps)) (Nat.le_refl _)
              (fun k => by simp only [f24.L0_16_succ, ge_dec, cond_false]) (fun k i x hi _ hx => by
                obtain ⟨b, h1, h2⟩ := f52_ok N (by omega) x.2.2.2
                simp only [f24.L0_16_succ, lt_dec hi, cond_true, idx_get hx, Option.bind_some, wi64_succ (show i < 9223372036854775807 by omega), h1]
                cases b with
                | true => exact .inl rfl
                | false => exact .inr ⟨h2 rfl, rfl⟩) N (by omega) with h | ⟨h, hd⟩
            · simp only [h]; exact ⟨true, rfl, fun h => by cases h⟩
            · simp only [h]
              exact ⟨false, rfl, fun _ => ⟨show fs.length ≤ 12 by omega, show ds.length ≤ 12 by omega, show ps.length ≤ 20 by omega, all_of_get (Nat.le_refl _) hf, all_of_get (Nat.le_refl _) hd, hb2 rfl⟩⟩

theorem f9_ok (N : Nat) (hN : 1000 ≤ N) (s : State) : ∃ b, F9 N s = some b ∧ (b = false → okS s) := by
  obtain ⟨p0, p1, p2, l⟩ := s
  rw [F9_eq]
  have hn : min l.length 21 ≤ l.length := Nat.min_le_left _ _
  rcases loop_find (l := l) (n := min l.length 21) (a := (.inr (p0, p1, p2, l) : Bool ⊕ (Int × Int × Int × List RoutineState))) (b := .inl true) (P := okR) (Lf := fun k i => f9.L0_3 N k (i, p0, p1, p2, l)) hn
    (fun k => by
      simp only [f9.L0_3_succ]
      by_cases h : l.length ≤ 21
      · rw [Nat.min_eq_left h, ge_dec, cond_false]
      · rw [Nat.min_eq_right (by omega), decide_eq_true (show ((21 : Nat) : Int) < l.length by omega), cond_true]
        rfl) (fun k i x hi _ hx => by
      obtain ⟨b, h1, h2⟩ := f24_ok N hN x
      simp only [f9.L0_3_succ, lt_dec (show i < l.length by omega), cond_true, decide_eq_true (show (i : Int) ≤ 20 by omega), idx_get hx, Option.bind_some, wi64_succ (show i < 9223372036854775807 by omega)]
      rw [h1]
      cases b with
      | true => exact .inl rfl
      | false => exact .inr ⟨h2 rfl, rfl⟩) N (by omega) with h | ⟨h, h2⟩
  · rw [h]; exact ⟨true, rfl, fun h => by cases h⟩
  · rw [h]
    refine ⟨_, rfl, fun hb => ?_⟩
    have hb : l.length ≤ 20 := by
      have h3 : ¬ (l.length : Int) > 20 := of_decide_eq_false hb
      omega
    exact ⟨hb, all_of_get (l := l) (n := min l.length 21) (by omega) h2⟩

/- ## Fair sizes -/
theorem f45_ok (N : Nat) (r : RoutineState) (h : okR r) : F45 N r = some true := by
  obtain ⟨p0, p1, fs, ds, ps⟩ := r
  obtain ⟨h1, h2, h3, _⟩ := h
  simp only at h1 h2 h3
  rw [F45_eq, decide_eq_true (show (fs.length : Int) ≤ 170 by omega), cond_true, decide_eq_true (show (ds.length : Int) ≤ 410 by omega), cond_true, decide_eq_true (show (ps.length : Int) ≤ 410 by omega)]
theorem f57_ok (N : Nat) (r : RoutineState) (h : okR r) : F57 N r = some false := by
  obtain ⟨p0, p1, fs, ds, ps⟩ := r
  rw [F57_eq, f45_ok N _ h]; rfl
theorem f55_ok (N : Nat) (r : RoutineState) (h : okR r) : F55 N r = some true := by
  obtain ⟨p0, p1, fs, ds, ps⟩ := r
  obtain ⟨h1, h2, h3, _⟩ := h
  simp only at h1 h2 h3
  rw [F55_eq, decide_eq_true (show (fs.length : Int) ≤ 170 by omega), cond_true, decide_eq_true (show (ds.length : Int) ≤ 410 by omega), cond_true, decide_eq_true (show (ps.length : Int) ≤ 410 by omega)]
theorem loop31 (N : Nat) (hN : 1000 ≤ N) (s : State) (h : okS s) : f31.L1018001007000_3 N N (s.2.2.2, (s.2.2.2.length : Int), 0, s.1, s.2.1, s.2.2.1, s.2.2.2) = some (.inr (s.1, s.2.1, s.2.2.1, s.2.2.2)) := by
  have key := loop_up (n := s.2.2.2.length) (Lf := fun k i => f31.L1018001007000_3 N k (s.2.2.2, (s.2.2.2.length : Int), i, s.1, s.2.1, s.2.2.1, s.2.2.2)) (g := fun _ => some (.inr (s.1, s.2.1, s.2.2.1, s.2.2.2)))
    (fun k => by simp only [f31.L1018001007000_3_succ, ge_dec, cond_false]) (fun k i hi ih => by
      have hb := h.1
      simp only [f31.L1018001007000_3_succ, lt_dec hi, cond_true, idx_get (List.getElem?_eq_getElem hi), Option.bind_some, wi64_succ (show i < 9223372036854775807 by omega)]
      have := f57_ok N s.2.2.2[i] (h.2 _ (List.getElem_mem hi))
      rw [this, Option.bind_some, cond_false]
      exact ih) N 0 (by omega) (by have := h.1; omega)
  simpa using key
def wholeB (s : State) : Bool := decide (s.2.2.2.length ≤ 16)
theorem f31_ok (N : Nat) (hN : 1000 ≤ N) (l : List State) (hl : l.length ≤ 2) (h : ∀ s ∈ l, okS s) : F31 N l = some (l.all wholeB) := by
  rw [F31_eq]
  have key := loop_any (l := l) (a := (.inr () : Bool ⊕ Unit)) (b := .inl false) (p := fun s => !wholeB s) (Lf := fun k i => f31.L0_3 N k (l, (l.length : Int), i))
    (fun k => by simp only [f31.L0_3_succ, ge_dec, cond_false]) (fun k i x hx hi => by
      have hi' := (List.getElem?_eq_some_iff.1 hi).1
      simp only [f31.L0_3_succ, lt_dec hi', cond_true, idx_get hi, Option.bind_some, wi64_succ (show i < 9223372036854775807 by omega)]
      by_cases h1 : x.2.2.2.length ≤ 16
      · rw [decide_eq_false (show ¬ (x.2.2.2.length : Int) > 16 by omega), cond_false, loop31 N hN x (h x hx), Option.bind_some]
        simp [wholeB, h1]
      · rw [decide_eq_true (show (x.2.2.2.length : Int) > 16 by omega), cond_true]
        simp [wholeB, h1]) N (by omega)
  rw [key, Option.bind_some]
  have : l.any (fun s => !wholeB s) = !l.all wholeB := by rw [List.all_eq_not_any_not]; simp
  rw [this]
  cases l.all wholeB <;> rfl
theorem f34_ok (N : Nat) (hN : 1000 ≤ N) (s : State) (h : okS s) : F34 N s = some (wholeB s) := by
  obtain ⟨p0, p1, p2, l⟩ := s
  rw [F34_eq]
  have key := loop_up (n := l.length) (Lf := fun k i => f34.L0_3 N k (i, p0, p1, p2, l)) (g := fun _ => some (.inr (p0, p1, p2, l)))
    (fun k => by simp only [f34.L0_3_succ, ge_dec, cond_false]) (fun k i hi ih => by
      have hb := h.1
      simp only at hb
      simp only [f34.L0_3_succ, lt_dec hi, cond_true, idx_get (List.getElem?_eq_getElem hi), Option.bind_some, wi64_succ (show i < 9223372036854775807 by omega)]
      have := f55_ok N l[i] (h.2 _ (List.getElem_mem hi))
      rw [this, Option.bind_some, Bool.not_true, cond_false]
      exact ih) N 0 (by omega) (by have := h.1; simp only at this; omega)
  simp only [Int.ofNat_zero] at key
  rw [key, Option.bind_some]
  simp only [wholeB]
  congr 1
  rw [decide_eq_decide]
  omega
end Go.Proofs.Ytdefleeofgekkaa

namespace Go.Proofs.Ytdefleeofgekkaa
open Go Go.Eng Go.Sym
open Classical

theorem f82_ok (N : Nat) (hN : 1000 ≤ N) (x y : Local) (h : okV 14 x.2) : F82 N (x.1, x.2.kind, x.2.int, x.2.text, x.2.list, x.2.cut, y.1, y.2.kind, y.2.int, y.2.text, y.2.list, y.2.cut) = some (decide (x = y)) := by
  rw [F82_eq, f83_ok N 14 x.2 y.2 (by omega) h]
  by_cases h1 : x.1 = y.1 <;> simp [Bool.cond_eq_ite, h1, Prod.ext_iff]
theorem l59 (N : Nat) (hN : 1000 ≤ N) (l m : List Local) (h : ∀ x ∈ l, okV 14 x.2) (hb : l.length ≤ 20) (hl : l.length = m.length) : f59.L1029000_6 N N (m, l, (l.length : Int), 0) = some (if l = m then .inr () else .inl false) :=
  loop_eq (Lf := fun k i => f59.L1029000_6 N k (m, l, (l.length : Int), i)) hl (fun k => by simp only [f59.L1029000_6_succ, ge_dec, cond_false]) (fun k i x y hx hy hi hj => by
    have hi' := (List.getElem?_eq_some_iff.1 hi).1
    simp only [f59.L1029000_6_succ, lt_dec hi', cond_true, idx_get hi, idx_get hj, Option.bind_some, f82_ok N hN x y (h x hx), wi64_succ (show i < 9223372036854775807 by omega)]
    by_cases hxy : x = y <;> simp [Bool.cond_eq_ite, hxy]) N (by omega)
theorem len_ne {α : Type} {l m : List α} : ((l.length : Int) != (m.length : Int)) = !decide (l.length = m.length) := by
  by_cases h : l.length = m.length
  · simp [Bool.cond_eq_ite, h]
  · have : ¬ (l.length : Int) = (m.length : Int) := by omega
    simp [Bool.cond_eq_ite, h, this]
theorem ne_len {α : Type} {l m : List α} (h : ¬ l.length = m.length) : ¬ l = m := fun e => h (by rw [e])
theorem f59_ok (N : Nat) (hN : 1000 ≤ N) (a b : FrameState) (h : okFr a) : F59 N (a.1, a.2.1, a.2.2.1, a.2.2.2, b.1, b.2.1, b.2.2.1, b.2.2.2) = some (decide (a = b)) := by
  rw [F59_eq, len_ne]
  by_cases h1 : a.1 = b.1
  · by_cases h2 : a.2.1 = b.2.1
    · by_cases h3 : a.2.2.1 = b.2.2.1
      · by_cases h4 : a.2.2.2.length = b.2.2.2.length
        · have key := l59 N hN _ _ h.2 h.1 h4
          simp only [h1, h2, h3, h4, beq_self_eq_true, cond_true, decide_true, Bool.not_true, cond_false]
          rw [h4] at key
          rw [key, Option.bind_some]
          by_cases h5 : a.2.2.2 = b.2.2.2 <;> simp [Bool.cond_eq_ite, h1, h2, h3, h5, Prod.ext_iff]
        · simp [Bool.cond_eq_ite, h1, h2, h3, h4, ne_len h4, Prod.ext_iff]
      · simp [Bool.cond_eq_ite, h1, h2, h3, Prod.ext_iff]
    · simp [Bool.cond_eq_ite, h1, h2, Prod.ext_iff]
  · simp [Bool.cond_eq_ite, h1, Prod.ext_iff]
theorem l44 (N : Nat) (hN : 1000 ≤ N) (l m : List Local) (h : ∀ x ∈ l, okV 14 x.2) (hb : l.length ≤ 20) (hl : l.length = m.length) : f44.L0_6 N N (l, m, 0) = some (if l = m then .inr () else .inl false) :=
  loop_eq (Lf := fun k i => f44.L0_6 N k (l, m, i)) hl (fun k => by simp only [f44.L0_6_succ, ge_dec, cond_false]) (fun k i x y hx hy hi hj => by
    have hi' := (List.getElem?_eq_some_iff.1 hi).1
    simp only [f44.L0_6_succ, lt_dec hi', cond_true, idx_get hi, idx_get hj, Option.bind_some, f49_ok N 14 x.2 y.2 (by omega) (h x hx), wi64_succ (show i < 9223372036854775807 by omega)]
    by_cases h1 : x.1 = y.1 <;> by_cases h2 : x.2 = y.2 <;> simp [Bool.cond_eq_ite, h1, h2, Prod.ext_iff]) N (by omega)
theorem f20_ok (N : Nat) (hN : 1000 ≤ N) (a b : FrameState) (h : okFr a) : F20 N (a.1, a.2.1, a.2.2.1, a.2.2.2, b.1, b.2.1, b.2.2.1, b.2.2.2) = some (decide (a = b)) := by
  have e : F44 N (a.2.2.2, b.2.2.2) = some (decide (a.2.2.2 = b.2.2.2)) := by
    rw [F44_eq, len_ne]
    by_cases h4 : a.2.2.2.length = b.2.2.2.length
    · simp only [h4, decide_true, Bool.not_true, cond_false, l44 N hN _ _ h.2 h.1 h4, Option.bind_some]
      by_cases h5 : a.2.2.2 = b.2.2.2 <;> simp [Bool.cond_eq_ite, h5]
    · simp [Bool.cond_eq_ite, h4, ne_len h4]
  rw [F20_eq, e]
  by_cases h1 : a.1 = b.1
  · by_cases h2 : a.2.1 = b.2.1
    · by_cases h3 : a.2.2.1 = b.2.2.1 <;> simp [Bool.cond_eq_ite, h1, h2, h3, Prod.ext_iff]
    · simp [Bool.cond_eq_ite, h1, h2, Prod.ext_iff]
  · simp [Bool.cond_eq_ite, h1, Prod.ext_iff]
theorem f61_ok (N : Nat) (hN : 1000 ≤ N) (a b : DeferState) (h : okDe a) : F61 N (a.1, a.2.1, a.2.2.1, a.2.2.2.kind, a.2.2.2.int, a.2.2.2.text, a.2.2.2.list, a.2.2.2.cut, b.1, b.2.1, b.2.2.1, b.2.2.2.kind, b.2.2.2.int, b.2.2.2.text, b.2.2.2.list, b.2.2.2.cut) = some (decide (a = b)) := by
  rw [F61_eq, f83_ok N 14 a.2.2.2 b.2.2.2 (by omega) h]
  by_cases h1 : a.1 = b.1
  · by_cases h2 : a.2.1 = b.2.1
    · by_cases h3 : a.2.2.1 = b.2.2.1 <;> simp [Bool.cond_eq_ite, h1, h2, h3, Prod.ext_iff]
    · simp [Bool.cond_eq_ite, h1, h2, Prod.ext_iff]
  · simp [Bool.cond_eq_ite, h1, Prod.ext_iff]
theorem f63_ok (N : Nat) (hN : 1000 ≤ N) (a b : PanicState) (h : okPa a) : F63 N (a.1, a.2.1.kind, a.2.1.int, a.2.1.text, a.2.1.list, a.2.1.cut, a.2.2, b.1, b.2.1.kind, b.2.1.int, b.2.1.text, b.2.1.list, b.2.1.cut, b.2.2) = some (decide (a = b)) := by
  rw [F63_eq, f83_ok N 14 a.2.1 b.2.1 (by omega) h]
  by_cases h1 : a.1 = b.1
  · by_cases h2 : a.2.2 = b.2.2 <;> simp [Bool.cond_eq_ite, h1, h2, Prod.ext_iff]
  · simp [Bool.cond_eq_ite, h1, Prod.ext_iff]
theorem f77_ok (N : Nat) (hN : 1000 ≤ N) (a b : PanicState) (h : okPa a) : F77 N (a.1, a.2.1.kind, a.2.1.int, a.2.1.text, a.2.1.list, a.2.1.cut, a.2.2, b.1, b.2.1.kind, b.2.1.int, b.2.1.text, b.2.1.list, b.2.1.cut, b.2.2) = some (decide (a = b)) := by
  rw [F77_eq, f49_ok N 14 a.2.1 b.2.1 (by omega) h]
  by_cases h1 : a.1 = b.1
  · by_cases h2 : a.2.2 = b.2.2 <;> simp [Bool.cond_eq_ite, h1, h2, Prod.ext_iff]
  · simp [Bool.cond_eq_ite, h1, Prod.ext_iff]
theorem f48_ok (N : Nat) (hN : 1000 ≤ N) (l m : List PanicState) (h : ∀ x ∈ l, okPa x) (hb : l.length ≤ 20) : F48 N (l, m) = some (decide (l = m)) := by
  rw [F48_eq, len_ne]
  by_cases hl : l.length = m.length
  · have key := loop_eq (l := l) (m := m) (a := (.inr () : Bool ⊕ Unit)) (b := .inl false) (Lf := fun k i => f48.L0_6 N k (l, m, i)) hl (fun k => by simp only [f48.L0_6_succ, ge_dec, cond_false]) (fun k i x y hx hy hi hj => by
      have hi' := (List.getElem?_eq_some_iff.1 hi).1
      simp only [f48.L0_6_succ, lt_dec hi', cond_true, idx_get hi, idx_get hj, Option.bind_some, f77_ok N hN x y (h x hx), wi64_succ (show i < 9223372036854775807 by omega)]
      by_cases hxy : x = y <;> simp [Bool.cond_eq_ite, hxy]) N (by omega)
    simp only [hl, decide_true, Bool.not_true, cond_false, key, Option.bind_some]
    by_cases h5 : l = m <;> simp [Bool.cond_eq_ite, h5]
  · simp [Bool.cond_eq_ite, hl, ne_len hl]

section
variable (p0 p1 : Int) (p2 : List FrameState) (p3 : List DeferState) (p4 : List PanicState) (p5 p6 : Int) (p7 : List FrameState) (p8 : List DeferState) (p9 : List PanicState)
theorem l23a (N : Nat) (hN : 1000 ≤ N) (h : ∀ x ∈ p2, okFr x) (hb : p2.length ≤ 12) (hl : p2.length = p7.length) : f23.L0_6 N N (0, p0, p1, p2, p3, p4, p5, p6, p7, p8, p9) = some (if p2 = p7 then .inr (p0, p1, p2, p3, p4, p5, p6, p7, p8, p9) else .inl false) :=
  loop_eq (Lf := fun k i => f23.L0_6 N k (i, p0, p1, p2, p3, p4, p5, p6, p7, p8, p9)) hl (fun k => by simp only [f23.L0_6_succ, ge_dec, cond_false]) (fun k i x y hx hy hi hj => by
    have hi' := (List.getElem?_eq_some_iff.1 hi).1
    simp only [f23.L0_6_succ, lt_dec hi', cond_true, idx_get hi, idx_get hj, Option.bind_some, f20_ok N hN x y (h x hx), wi64_succ (show i < 9223372036854775807 by omega)]
    by_cases hxy : x = y <;> simp [Bool.cond_eq_ite, hxy]) N (by omega)
theorem l23b (N : Nat) (hN : 1000 ≤ N) (h : ∀ x ∈ p3, okDe x) (hb : p3.length ≤ 12) (hl : p3.length = p8.length) : f23.L0_16 N N (0, p0, p1, p2, p3, p4, p5, p6, p7, p8, p9) = some (if p3 = p8 then .inr () else .inl false) :=
  loop_eq (Lf := fun k i => f23.L0_16 N k (i, p0, p1, p2, p3, p4, p5, p6, p7, p8, p9)) hl (fun k => by simp only [f23.L0_16_succ, ge_dec, cond_false]) (fun k i x y hx hy hi hj => by
    have hi' := (List.getElem?_eq_some_iff.1 hi).1
    simp only [f23.L0_16_succ, lt_dec hi', cond_true, idx_get hi, idx_get hj, Option.bind_some, f49_ok N 14 x.2.2.2 y.2.2.2 (by omega) (h x hx), wi64_succ (show i < 9223372036854775807 by omega)]
    by_cases h1 : x.1 = y.1
    · by_cases h2 : x.2.1 = y.2.1
      · by_cases h3 : x.2.2.1 = y.2.2.1
        · by_cases h4 : x.2.2.2 = y.2.2.2 <;> simp [Bool.cond_eq_ite, h1, h2, h3, h4, Prod.ext_iff]
        · simp [Bool.cond_eq_ite, h1, h2, h3, Prod.ext_iff]
      · simp [Bool.cond_eq_ite, h1, h2, Prod.ext_iff]
    · simp [Bool.cond_eq_ite, h1, Prod.ext_iff]) N (by omega)
theorem f23_ok (N : Nat) (hN : 1000 ≤ N) (h : okR (p0, p1, p2, p3, p4)) : F23 N (p0, p1, p2, p3, p4, p5, p6, p7, p8, p9) = some (decide (((p0, p1, p2, p3, p4) : RoutineState) = (p5, p6, p7, p8, p9))) := by
  obtain ⟨b1, b2, b3, o1, o2, o3⟩ := h
  simp only at b1 b2 b3 o1 o2 o3
  rw [F23_eq, len_ne, len_ne, f48_ok N hN p4 p9 o3 b3, Option.bind_some]
  by_cases h1 : p0 = p5
  · by_cases h2 : p1 = p6
    · by_cases h3 : p2.length = p7.length
      · by_cases h4 : p3.length = p8.length
        · by_cases h5 : p4 = p9
          · simp only [h1, h2, h3, h4, h5, bne_self_eq_false, cond_false, decide_true, Bool.not_true]
            rw [l23a _ _ _ _ _ _ _ _ _ _ N hN o1 b1 h3, Option.bind_some]
            by_cases h6 : p2 = p7
            · simp only [h6, if_true]
              rw [l23b _ _ _ _ _ _ _ _ _ _ N hN o2 b2 h4, Option.bind_some]
              by_cases h7 : p3 = p8 <;> simp [Bool.cond_eq_ite, h7]
            · simp [Bool.cond_eq_ite, h6]
          · simp [Bool.cond_eq_ite, h1, h2, h3, h4, h5]
        · simp [Bool.cond_eq_ite, h1, h2, h3, h4, ne_len h4]
      · simp [Bool.cond_eq_ite, h1, h2, h3, ne_len h3]
    · simp [Bool.cond_eq_ite, h1, h2]
  · simp [Bool.cond_eq_ite, h1]
theorem l37a (N : Nat) (hN : 1000 ≤ N) (h : ∀ x ∈ p2, okFr x) (hb : p2.length ≤ 12) (hl : p2.length = p7.length) : f37.L1022000_6 N N (p7, p2, (p2.length : Int), 0, p0, p1, p2, p3, p4, p5, p6, p7, p8, p9) = some (if p2 = p7 then .inr (p0, p1, p2, p3, p4, p5, p6, p7, p8, p9) else .inl (false, p0, p1, p2, p3, p4, p5, p6, p7, p8, p9)) :=
  loop_eq (Lf := fun k i => f37.L1022000_6 N k (p7, p2, (p2.length : Int), i, p0, p1, p2, p3, p4, p5, p6, p7, p8, p9)) hl (fun k => by simp only [f37.L1022000_6_succ, ge_dec, cond_false]) (fun k i x y hx hy hi hj => by
    have hi' := (List.getElem?_eq_some_iff.1 hi).1
    simp only [f37.L1022000_6_succ, lt_dec hi', cond_true, idx_get hi, idx_get hj, Option.bind_some, f59_ok N hN x y (h x hx), wi64_succ (show i < 9223372036854775807 by omega)]
    by_cases hxy : x = y <;> simp [Bool.cond_eq_ite, hxy]) N (by omega)
theorem l37b (N : Nat) (hN : 1000 ≤ N) (h : ∀ x ∈ p3, okDe x) (hb : p3.length ≤ 12) (hl : p3.length = p8.length) : f37.L1029000_6 N N (p8, p3, (p3.length : Int), 0, p0, p1, p2, p3, p4, p5, p6, p7, p8, p9) = some (if p3 = p8 then .inr (p0, p1, p2, p3, p4, p5, p6, p7, p8, p9) else .inl (false, p0, p1, p2, p3, p4, p5, p6, p7, p8, p9)) :=
  loop_eq (Lf := fun k i => f37.L1029000_6 N k (p8, p3, (p3.length : Int), i, p0, p1, p2, p3, p4, p5, p6, p7, p8, p9)) hl (fun k => by simp only [f37.L1029000_6_succ, ge_dec, cond_false]) (fun k i x y hx hy hi hj => by
    have hi' := (List.getElem?_eq_some_iff.1 hi).1
    simp only [f37.L1029000_6_succ, lt_dec hi', cond_true, idx_get hi, idx_get hj, Option.bind_some, f61_ok N hN x y (h x hx), wi64_succ (show i < 9223372036854775807 by omega)]
    by_cases hxy : x = y <;> simp [Bool.cond_eq_ite, hxy]) N (by omega)
theorem l37c (N : Nat) (hN : 1000 ≤ N) (h : ∀ x ∈ p4, okPa x) (hb : p4.length ≤ 20) (hl : p4.length = p9.length) : f37.L1036000_6 N N (p9, p4, (p4.length : Int), 0) = some (if p4 = p9 then .inr () else .inl false) :=
  loop_eq (Lf := fun k i => f37.L1036000_6 N k (p9, p4, (p4.length : Int), i)) hl (fun k => by simp only [f37.L1036000_6_succ, ge_dec, cond_false]) (fun k i x y hx hy hi hj => by
    have hi' := (List.getElem?_eq_some_iff.1 hi).1
    simp only [f37.L1036000_6_succ, lt_dec hi', cond_true, idx_get hi, idx_get hj, Option.bind_some, f63_ok N hN x y (h x hx), wi64_succ (show i < 9223372036854775807 by omega)]
    by_cases hxy : x = y <;> simp [Bool.cond_eq_ite, hxy]) N (by omega)
theorem f37_ok (N : Nat) (hN : 1000 ≤ N) (h : okR (p0, p1, p2, p3, p4)) : F37 N (p0, p1, p2, p3, p4, p5, p6, p7, p8, p9) = some (decide (((p0, p1, p2, p3, p4) : RoutineState) = (p5, p6, p7, p8, p9))) := by
  obtain ⟨b1, b2, b3, o1, o2, o3⟩ := h
  simp only at b1 b2 b3 o1 o2 o3
  rw [F37_eq, len_ne]
  by_cases h1 : p0 = p5
  · by_cases h2 : p1 = p6
    · by_cases h3 : p2.length = p7.length
      · simp only [h1, h2, h3, beq_self_eq_true, cond_true, cond_false, decide_true, Bool.not_true]
        have k1 := l37a p5 p6 p2 p3 p4 p5 p6 p7 p8 p9 N hN o1 b1 h3
        rw [h3] at k1
        rw [k1, Option.bind_some]
        by_cases h6 : p2 = p7
        · simp only [h6, if_true, len_ne]
          by_cases h4 : p3.length = p8.length
          · have k2 := l37b p5 p6 p7 p3 p4 p5 p6 p7 p8 p9 N hN o2 b2 h4
            simp only [h4, decide_true, Bool.not_true, cond_false]
            rw [h4] at k2
            rw [k2, Option.bind_some]
            by_cases h7 : p3 = p8
            · simp only [h7, if_true, len_ne]
              by_cases h5 : p4.length = p9.length
              · have k3 := l37c p4 p9 N hN o3 b3 h5
                simp only [h5, decide_true, Bool.not_true, cond_false]
                rw [h5] at k3
                rw [k3, Option.bind_some]
                by_cases h8 : p4 = p9 <;> simp [Bool.cond_eq_ite, h8]
              · simp [Bool.cond_eq_ite, h5, ne_len h5]
            · simp [Bool.cond_eq_ite, h7]
          · simp [Bool.cond_eq_ite, h4, ne_len h4]
        · simp [Bool.cond_eq_ite, h6]
      · simp [Bool.cond_eq_ite, h1, h2, h3, ne_len h3]
    · simp [Bool.cond_eq_ite, h1, h2]
  · simp [Bool.cond_eq_ite, h1]
end

/- ## Copies -/
theorem l33a (N : Nat) (hN : 1000 ≤ N) (l : List Local) (h : ∀ x ∈ l, okV 14 x.2) (hb : l.length ≤ 20) (v10 v11 v12 v15 v16 : Int) (v17 : List FrameState) (v18 : List DeferState) (v19 : List PanicState) (v20 v21 : Int) :
    f33.L0_12 N N (v10, v11, v12, (l.length : Int), 0, v15, v16, v17, v18, v19, v20, v21, l) = some (v10, v11, v12, v15, v16, v17, v18, v19, v20, v21, l) := by
  have key := loop_up (n := l.length) (Lf := fun k i => f33.L0_12 N k (v10, v11, v12, (l.length : Int), i, v15, v16, v17, v18, v19, v20, v21, l)) (g := fun _ => some (v10, v11, v12, v15, v16, v17, v18, v19, v20, v21, l))
    (fun k => by simp only [f33.L0_12_succ, ge_dec, cond_false]) (fun k i hi ih => by
      have hi' := List.getElem?_eq_getElem hi
      have ex : Val.mk l[i].2.kind l[i].2.int l[i].2.text l[i].2.list l[i].2.cut = l[i].2 := by cases l[i].2; rfl
      simp only [f33.L0_12_succ, lt_dec hi, cond_true, chk_of (inR_lt hi), Int.toNat_natCast, hi', Option.bind_some, f68_ok N 14 l[i].2 (by omega) (h _ (List.getElem_mem hi)), wi64_succ (show i < 9223372036854775807 by omega), ex, set_self hi']
      exact ih) N 0 (by omega) (by omega)
  simpa using key
section
variable (v2 v3 : Int) (v4 : List FrameState) (v5 : List DeferState) (v6 : List PanicState) (v7 v8 : Int)
theorem l33b (N : Nat) (hN : 1000 ≤ N) (h : ∀ x ∈ v4, okFr x) (hb : v4.length ≤ 12) : f33.L0_4 N N ((v4.length : Int), 0, v2, v3, v4, v5, v6, v7, v8) = some (v2, v3, v4, v5, v6, v7, v8) := by
  have key := loop_up (n := v4.length) (Lf := fun k i => f33.L0_4 N k ((v4.length : Int), i, v2, v3, v4, v5, v6, v7, v8)) (g := fun _ => some (v2, v3, v4, v5, v6, v7, v8))
    (fun k => by simp only [f33.L0_4_succ, ge_dec, cond_false]) (fun k i hi ih => by
      have hi' := List.getElem?_eq_getElem hi
      obtain ⟨g1, g2⟩ := h _ (List.getElem_mem hi)
      simp only [f33.L0_4_succ, lt_dec hi, cond_true, chk_of (inR_lt hi), Int.toNat_natCast, hi', Option.bind_some, chk_of (room_of (show v4[i].2.2.2.length ≤ 9223372036854775807 by omega) (show v4[i].2.2.2.length * 72 ≤ 140737488355328 by omega)), l33a N hN _ g2 g1, wi64_succ (show i < 9223372036854775807 by omega), set_self hi']
      exact ih) N 0 (by omega) (by omega)
  simpa using key
theorem l33c (N : Nat) (hN : 1000 ≤ N) (h : ∀ x ∈ v5, okDe x) (hb : v5.length ≤ 12) : f33.L0_23 N N ((v5.length : Int), 0, v2, v3, v4, v5, v6, v7, v8) = some (v2, v3, v4, v5, v6, v7, v8) := by
  have key := loop_up (n := v5.length) (Lf := fun k i => f33.L0_23 N k ((v5.length : Int), i, v2, v3, v4, v5, v6, v7, v8)) (g := fun _ => some (v2, v3, v4, v5, v6, v7, v8))
    (fun k => by simp only [f33.L0_23_succ, ge_dec, cond_false]) (fun k i hi ih => by
      have hi' := List.getElem?_eq_getElem hi
      have ex : Val.mk v5[i].2.2.2.kind v5[i].2.2.2.int v5[i].2.2.2.text v5[i].2.2.2.list v5[i].2.2.2.cut = v5[i].2.2.2 := by cases v5[i].2.2.2; rfl
      simp only [f33.L0_23_succ, lt_dec hi, cond_true, chk_of (inR_lt hi), Int.toNat_natCast, hi', Option.bind_some, f68_ok N 14 v5[i].2.2.2 (by omega) (h _ (List.getElem_mem hi)), wi64_succ (show i < 9223372036854775807 by omega), ex, set_self hi']
      exact ih) N 0 (by omega) (by omega)
  simpa using key
theorem l33d (N : Nat) (hN : 1000 ≤ N) (h : ∀ x ∈ v6, okPa x) (hb : v6.length ≤ 20) : f33.L0_32 N N ((v6.length : Int), 0, v2, v3, v4, v5, v6, v7, v8) = some (v2, v3, v4, v5, v6, v7, v8) := by
  have key := loop_up (n := v6.length) (Lf := fun k i => f33.L0_32 N k ((v6.length : Int), i, v2, v3, v4, v5, v6, v7, v8)) (g := fun _ => some (v2, v3, v4, v5, v6, v7, v8))
    (fun k => by simp only [f33.L0_32_succ, ge_dec, cond_false]) (fun k i hi ih => by
      have hi' := List.getElem?_eq_getElem hi
      have ex : Val.mk v6[i].2.1.kind v6[i].2.1.int v6[i].2.1.text v6[i].2.1.list v6[i].2.1.cut = v6[i].2.1 := by cases v6[i].2.1; rfl
      simp only [f33.L0_32_succ, lt_dec hi, cond_true, chk_of (inR_lt hi), Int.toNat_natCast, hi', Option.bind_some, f68_ok N 14 v6[i].2.1 (by omega) (h _ (List.getElem_mem hi)), wi64_succ (show i < 9223372036854775807 by omega), ex, set_self hi']
      exact ih) N 0 (by omega) (by omega)
  simpa using key
end
theorem f33_ok (N : Nat) (hN : 1000 ≤ N) (p0 p1 : Int) (p2 : List FrameState) (p3 : List DeferState) (p4 : List PanicState) (h : okR (p0, p1, p2, p3, p4)) : F33 N (p0, p1, p2, p3, p4) = some (p0, p1, p2, p3, p4) := by
  obtain ⟨b1, b2, b3, o1, o2, o3⟩ := h
  simp only at b1 b2 b3 o1 o2 o3
  rw [F33_eq, chk_of (room_of (by omega) (by omega)), chk_of (room_of (by omega) (by omega)), chk_of (room_of (by omega) (by omega)), l33b p0 p1 p2 p3 p4 0 0 N hN o1 b1, Option.bind_some]
  simp only
  rw [l33c p0 p1 p2 p3 p4 0 0 N hN o2 b2, Option.bind_some]
  simp only
  rw [l33d p0 p1 p2 p3 p4 0 0 N hN o3 b3, Option.bind_some]
end Go.Proofs.Ytdefleeofgekkaa

namespace Go.Proofs.Ytdefleeofgekkaa
open Go Go.Eng Go.Sym
open Classical

/- ## What two lists have in common at their ends -/
noncomputable def csr : List FrameState → List FrameState → Nat
  | x :: xs, y :: ys => if x = y then csr xs ys + 1 else 0
  | _, _ => 0
theorem csr_le : ∀ a b : List FrameState, csr a b ≤ a.length ∧ csr a b ≤ b.length
  | x :: xs, y :: ys => by
    simp only [csr]
    split
    · have := csr_le xs ys
      simp; omega
    · simp
  | [], _ => by simp [csr]
  | _ :: _, [] => by simp [csr]
theorem csr_get : ∀ (a b : List FrameState) (i : Nat), i < csr a b → a[i]? = b[i]?
  | x :: xs, y :: ys, i, h => by
    simp only [csr] at h
    split at h
    · rename_i e
      cases i with
      | zero => simp [e]
      | succ i => simpa using csr_get xs ys i (by omega)
    · omega
  | [], _, i, h => by simp [csr] at h
  | _ :: _, [], i, h => by simp [csr] at h
theorem csr_ne : ∀ (a b : List FrameState), csr a b < a.length → csr a b < b.length → a[csr a b]? ≠ b[csr a b]?
  | x :: xs, y :: ys, h1, h2 => by
    simp only [csr] at h1 h2 ⊢
    split
    · rename_i e
      rw [if_pos e] at h1 h2
      simpa using csr_ne xs ys (by simpa using h1) (by simpa using h2)
    · rename_i e
      simpa using e
  | [], _, h, _ => by simp [csr] at h
  | _ :: _, [], _, h => by simp [csr] at h
noncomputable def cmn (a b : List FrameState) : Nat := csr a.reverse b.reverse
theorem cmn_le (a b : List FrameState) : cmn a b ≤ a.length ∧ cmn a b ≤ b.length := by simpa [cmn] using csr_le a.reverse b.reverse
theorem rev_get {α : Type} {l : List α} {i : Nat} (h : i < l.length) : l.reverse[i]? = l[l.length - 1 - i]? := List.getElem?_reverse h
theorem cmn_get {a b : List FrameState} {i : Nat} (h : i < cmn a b) : a[a.length - 1 - i]? = b[b.length - 1 - i]? := by
  have h1 := cmn_le a b
  have := csr_get _ _ i h
  rwa [rev_get (by omega), rev_get (by omega)] at this
theorem cmn_ne {a b : List FrameState} (h1 : cmn a b < a.length) (h2 : cmn a b < b.length) : a[a.length - 1 - cmn a b]? ≠ b[b.length - 1 - cmn a b]? := by
  have := csr_ne a.reverse b.reverse (by simpa [cmn] using h1) (by simpa [cmn] using h2)
  rwa [← cmn, rev_get h1, rev_get h2] at this

section
variable (v3 v4 : Int) (v5 : List FrameState) (v6 : List DeferState) (v7 : List PanicState) (v8 v9 : Int) (v10 : List FrameState) (v11 : List DeferState) (v12 : List PanicState) (v13 : List Edit) (v14 : Int)
end

/- ## Between two goroutines -/
noncomputable def opt (c : Prop) (e : Edit) : List Edit := if c then [e] else []
theorem opt_len (c : Prop) (e : Edit) : (opt c e).length ≤ 1 := by unfold opt; split <;> simp
theorem opt_mem {c : Prop} {e x : Edit} (h : x ∈ opt c e) : c ∧ x = e := by
  unfold opt at h
  split at h
  · exact ⟨by assumption, by simpa using h⟩
  · simp at h
noncomputable def betw (g : Int) (a b : RoutineState) : List Edit :=
  ((opt (a.1 ≠ b.1 ∨ a.2.1 ≠ b.2.1) (2, g, 0, 0, 0, 0, b.1, b.2.1, [], [], []) ++
  opt (cmn a.2.2.1 b.2.2.1 < a.2.2.1.length ∨ cmn a.2.2.1 b.2.2.1 < b.2.2.1.length) (3, g, (cmn a.2.2.1 b.2.2.1 : Int), 0, 0, 0, 0, 0, b.2.2.1.take (b.2.2.1.length - cmn a.2.2.1 b.2.2.1), [], [])) ++
  opt (a.2.2.2.1 ≠ b.2.2.2.1) (4, g, 0, 0, 0, 0, 0, 0, [], b.2.2.2.1, [])) ++
  opt (a.2.2.2.2 ≠ b.2.2.2.2) (5, g, 0, 0, 0, 0, 0, 0, [], [], b.2.2.2.2)
theorem betw_len (g : Int) (a b : RoutineState) : (betw g a b).length ≤ 4 := by
  simp only [betw, List.length_append]
  have h1 := opt_len (a.1 ≠ b.1 ∨ a.2.1 ≠ b.2.1) (2, g, 0, 0, 0, 0, b.1, b.2.1, [], [], [])
  have h2 := opt_len (cmn a.2.2.1 b.2.2.1 < a.2.2.1.length ∨ cmn a.2.2.1 b.2.2.1 < b.2.2.1.length) (3, g, (cmn a.2.2.1 b.2.2.1 : Int), 0, 0, 0, 0, 0, b.2.2.1.take (b.2.2.1.length - cmn a.2.2.1 b.2.2.1), [], [])
  have h3 := opt_len (a.2.2.2.1 ≠ b.2.2.2.1) (4, g, 0, 0, 0, 0, 0, 0, [], b.2.2.2.1, [])
  have h4 := opt_len (a.2.2.2.2 ≠ b.2.2.2.2) (5, g, 0, 0, 0, 0, 0, 0, [], [], b.2.2.2.2)
  omega
theorem okR_1 (a b : Int) : okR (a, b, [], [], []) := ⟨by simp, by simp, by simp, by simp, by simp, by simp⟩
theorem okR_3 {r : RoutineState} (h : okR r) (a b : Int) (k : Nat) : okR (a, b, r.2.2.1.take k, [], []) :=
  ⟨by have := h.1; simp; omega, by simp, by simp, fun f hf => h.2.2.2.1 f (List.mem_of_mem_take hf), by simp, by simp⟩
theorem okR_4 {r : RoutineState} (h : okR r) (a b : Int) : okR (a, b, [], r.2.2.2.1, []) := ⟨by simp, h.2.1, by simp, by simp, h.2.2.2.2.1, by simp⟩
theorem okR_5 {r : RoutineState} (h : okR r) (a b : Int) : okR (a, b, [], [], r.2.2.2.2) := ⟨by simp, by simp, h.2.2.1, by simp, by simp, h.2.2.2.2.2⟩
/-- what an edit has is not great -/
def okE (e : Edit) : Prop := okR e.2.2.2.2.2.2
theorem betw_ok (g : Int) (a b : RoutineState) (h : okR b) : ∀ e ∈ betw g a b, okE e := by
  intro e he
  simp only [betw, List.mem_append] at he
  rcases he with ((he | he) | he) | he
  · rw [(opt_mem he).2]; exact okR_1 _ _
  · rw [(opt_mem he).2]; exact okR_3 h _ _ _
  · rw [(opt_mem he).2]; exact okR_4 h _ _
  · rw [(opt_mem he).2]; exact okR_5 h _ _

theorem bne_dec (a b : Int) : (a != b) = decide (a ≠ b) := by by_cases h : a = b <;> simp [h]

end Go.Proofs.Ytdefleeofgekkaa

namespace Go.Proofs.Ytdefleeofgekkaa
open Go Go.Eng Go.Sym
open Classical

/-- between all goroutines that both have, from a number on -/
noncomputable def bt : Nat → List RoutineState → List RoutineState → List Edit
  | g, x :: xs, y :: ys => betw g x y ++ bt (g + 1) xs ys
  | _, _, _ => []
theorem bt_step {a b : List RoutineState} {i : Nat} {x y : RoutineState} (hx : a[i]? = some x) (hy : b[i]? = some y) : bt i (a.drop i) (b.drop i) = betw i x y ++ bt (i + 1) (a.drop (i + 1)) (b.drop (i + 1)) := by
  obtain ⟨h1, rfl⟩ := List.getElem?_eq_some_iff.1 hx
  obtain ⟨h2, rfl⟩ := List.getElem?_eq_some_iff.1 hy
  rw [List.drop_eq_getElem_cons h1, List.drop_eq_getElem_cons h2, bt]
theorem bt_end {a b : List RoutineState} {i : Nat} (h : a.length ≤ i ∨ b.length ≤ i) : bt i (a.drop i) (b.drop i) = [] := by
  rcases h with h | h
  · rw [List.drop_eq_nil_of_le h]; cases b.drop i <;> rfl
  · rw [List.drop_eq_nil_of_le h]; cases a.drop i <;> rfl
theorem bt_len : ∀ (g : Nat) (a b : List RoutineState), (bt g a b).length ≤ 4 * a.length
  | g, x :: xs, y :: ys => by
    rw [bt, List.length_append, List.length_cons]
    have := bt_len (g + 1) xs ys
    have := betw_len g x y
    omega
  | g, [], _ => by simp [bt]
  | g, _ :: _, [] => by simp [bt]
theorem bt_ok : ∀ (g : Nat) (a b : List RoutineState), (∀ r ∈ b, okR r) → ∀ e ∈ bt g a b, okE e
  | g, x :: xs, y :: ys, h, e, he => by
    rw [bt, List.mem_append] at he
    rcases he with he | he
    · exact betw_ok _ _ _ (h y (by simp)) e he
    · exact bt_ok (g + 1) xs ys (fun r hr => h r (by simp [hr])) e he
  | g, [], _, _, e, he => by simp [bt] at he
  | g, _ :: _, [], _, e, he => by simp [bt] at he

/-- the edits from a state to another one -/
noncomputable def listS (a b : State) : List Edit :=
  ((opt (a.1 ≠ b.1 ∨ a.2.1 ≠ b.2.1 ∨ a.2.2.1 ≠ b.2.2.1) (1, 0, 0, b.1, b.2.1, b.2.2.1, 0, 0, [], [], []) ++ bt 0 a.2.2.2 b.2.2.2) ++
  opt (b.2.2.2.length < a.2.2.2.length) (6, (b.2.2.2.length : Int), 0, 0, 0, 0, 0, 0, [], [], [])) ++ (b.2.2.2.drop a.2.2.2.length).map fun x => ((7, 0, 0, 0, 0, 0, x) : Edit)
theorem listS_ok {a b : State} (hb : okS b) : ∀ e ∈ listS a b, okE e := by
  intro e he
  simp only [listS, List.mem_append] at he
  rcases he with ((he | he) | he) | he
  · rw [(opt_mem he).2]; exact okR_1 _ _
  · exact bt_ok _ _ _ hb.2 e he
  · rw [(opt_mem he).2]; exact okR_1 _ _
  · obtain ⟨x, hx, rfl⟩ := List.mem_map.1 he
    exact hb.2 x (List.mem_of_mem_drop hx)
theorem listS_len {a b : State} (l1 : a.2.2.2.length ≤ 16) (l2 : b.2.2.2.length ≤ 16) : (listS a b).length ≤ 82 := by
  simp only [listS, List.length_append, List.length_map, List.length_drop]
  have h1 := opt_len (a.1 ≠ b.1 ∨ a.2.1 ≠ b.2.1 ∨ a.2.2.1 ≠ b.2.2.1) (1, 0, 0, b.1, b.2.1, b.2.2.1, 0, 0, [], [], [])
  have h2 := opt_len (b.2.2.2.length < a.2.2.2.length) (6, (b.2.2.2.length : Int), 0, 0, 0, 0, 0, 0, [], [], [])
  have h3 := bt_len 0 a.2.2.2 b.2.2.2
  omega
/-- what the program and the reference give -/
noncomputable def listR (a b : State) : List Edit × Int := if wholeB a && wholeB b then (listS a b, 0) else ([], 4)

theorem bifOpt {c : Prop} {e : Edit} {α : Type} {f : List Edit → α} {b : Bool} (hb : b = decide c) : (bif b then some (f [e]) else some (f [])) = some (f (opt c e)) := by
  subst hb
  unfold opt
  by_cases h : c
  · rw [decide_eq_true h, cond_true, if_pos h]
  · rw [decide_eq_false h, cond_false, if_neg h]
/- ## The same states -/
noncomputable def sameR (a b : State) : Bool × Int := if wholeB a && wholeB b then (decide (a = b), 0) else (false, 4)
theorem f19_ok (N : Nat) (hN : 1000 ≤ N) (a b : State) (ha : okS a) : F19 N (a.1, a.2.1, a.2.2.1, a.2.2.2, b.1, b.2.1, b.2.2.1, b.2.2.2) = some (decide (a = b)) := by
  obtain ⟨p0, p1, p2, p3⟩ := a
  obtain ⟨p4, p5, p6, p7⟩ := b
  simp only
  rw [F19_eq, len_ne]
  by_cases h1 : p0 = p4
  · by_cases h2 : p1 = p5
    · by_cases h3 : p2 = p6
      · by_cases h4 : p3.length = p7.length
        · have hb := ha.1
          simp only at hb
          have key := loop_eq (l := p3) (m := p7) (a := (.inr () : Bool ⊕ Unit)) (b := .inl false) (Lf := fun k i => f19.L0_6 N k (i, p4, p5, p6, p3, p4, p5, p6, p7)) h4 (fun k => by simp only [f19.L0_6_succ, ge_dec, cond_false]) (fun k i x y hx hy hi hj => by
            have hi' := (List.getElem?_eq_some_iff.1 hi).1
            simp only [f19.L0_6_succ, lt_dec hi', cond_true, idx_get hi, idx_get hj, Option.bind_some, wi64_succ (show i < 9223372036854775807 by omega)]
            have := f23_ok x.1 x.2.1 x.2.2.1 x.2.2.2.1 x.2.2.2.2 y.1 y.2.1 y.2.2.1 y.2.2.2.1 y.2.2.2.2 N hN (ha.2 x hx)
            rw [this, Option.bind_some]
            by_cases hxy : x = y
            · subst hxy; simp
            · have : decide (((x.1, x.2.1, x.2.2.1, x.2.2.2.1, x.2.2.2.2) : RoutineState) = (y.1, y.2.1, y.2.2.1, y.2.2.2.1, y.2.2.2.2)) = false := decide_eq_false hxy
              rw [this, Bool.not_false, cond_true, if_neg hxy]) N (by omega)
          simp only [h1, h2, h3, bne_self_eq_false, h4, decide_true, Bool.not_true, cond_false]
          rw [key, Option.bind_some]
          by_cases h5 : p3 = p7 <;> simp [h5]
        · simp [h1, h2, h3, h4, ne_len h4]
      · simp [h1, h2, h3, Bool.cond_eq_ite]
    · simp [h1, h2, Bool.cond_eq_ite]
  · simp [h1, Bool.cond_eq_ite]
/- ## The same edits -/
theorem f38_ok (N : Nat) (hN : 1000 ≤ N) (a b : Edit) (h : okE a) : F38 N (a.1, a.2.1, a.2.2.1, a.2.2.2.1, a.2.2.2.2.1, a.2.2.2.2.2.1, a.2.2.2.2.2.2.1, a.2.2.2.2.2.2.2.1, a.2.2.2.2.2.2.2.2.1, a.2.2.2.2.2.2.2.2.2.1, a.2.2.2.2.2.2.2.2.2.2,
    b.1, b.2.1, b.2.2.1, b.2.2.2.1, b.2.2.2.2.1, b.2.2.2.2.2.1, b.2.2.2.2.2.2.1, b.2.2.2.2.2.2.2.1, b.2.2.2.2.2.2.2.2.1, b.2.2.2.2.2.2.2.2.2.1, b.2.2.2.2.2.2.2.2.2.2) = some (decide (a = b)) := by
  obtain ⟨a1, a2, a3, a4, a5, a6, a7, a8, a9, a10, a11⟩ := a
  obtain ⟨b1, b2, b3, b4, b5, b6, b7, b8, b9, b10, b11⟩ := b
  simp only
  rw [F38_eq, f23_ok a7 a8 a9 a10 a11 b7 b8 b9 b10 b11 N hN h, Option.bind_some]
  by_cases h1 : a1 = b1
  · by_cases h2 : a2 = b2
    · by_cases h3 : a3 = b3
      · by_cases h4 : a4 = b4
        · by_cases h5 : a5 = b5
          · by_cases h6 : a6 = b6 <;> simp [h1, h2, h3, h4, h5, h6, Bool.cond_eq_ite]
          · simp [h1, h2, h3, h4, h5, Bool.cond_eq_ite]
        · simp [h1, h2, h3, h4, Bool.cond_eq_ite]
      · simp [h1, h2, h3, Bool.cond_eq_ite]
    · simp [h1, h2, Bool.cond_eq_ite]
  · simp [h1, Bool.cond_eq_ite]
end Go.Proofs.Ytdefleeofgekkaa

namespace Go.Proofs.Ytdefleeofgekkaa
open Go Go.Eng Go.Sym
attribute [local instance] Classical.propDecidable

/- ## Fair sizes, whatever is in them -/
def fairP (r : RoutineState) : Prop := r.2.2.1.length ≤ 170 ∧ r.2.2.2.1.length ≤ 410 ∧ r.2.2.2.2.length ≤ 410
theorem f45_any (N : Nat) (r : RoutineState) : F45 N r = some (decide (fairP r)) := by
  obtain ⟨p0, p1, fs, ds, ps⟩ := r
  rw [F45_eq]
  by_cases h1 : fs.length ≤ 170
  · rw [decide_eq_true (show (fs.length : Int) ≤ 170 by omega), cond_true]
    by_cases h2 : ds.length ≤ 410
    · rw [decide_eq_true (show (ds.length : Int) ≤ 410 by omega), cond_true]
      congr 1
      apply decide_eq_decide.2
      simp only [fairP]
      omega
    · rw [decide_eq_false (show ¬ (ds.length : Int) ≤ 410 by omega), cond_false, decide_eq_false fun h => h2 h.2.1]
  · rw [decide_eq_false (show ¬ (fs.length : Int) ≤ 170 by omega), cond_false, decide_eq_false fun h => h1 h.1]
theorem f57_any (N : Nat) (r : RoutineState) : F57 N r = some (!decide (fairP r)) := by
  obtain ⟨p0, p1, fs, ds, ps⟩ := r
  rw [F57_eq, f45_any]; rfl
theorem okR_fair {r : RoutineState} (h : okR r) : fairP r := by
  obtain ⟨h1, h2, h3, _⟩ := h
  exact ⟨by omega, by omega, by omega⟩
def wholeP (s : State) : Prop := s.2.2.2.length ≤ 16 ∧ ∀ r ∈ s.2.2.2, fairP r
theorem loop31_any (N : Nat) (s : State) (h : s.2.2.2.length ≤ 16) : ∀ k i : Nat, i ≤ s.2.2.2.length → s.2.2.2.length - i < k →
    (f31.L1018001007000_3 N k (s.2.2.2, (s.2.2.2.length : Int), (i : Int), s.1, s.2.1, s.2.2.1, s.2.2.2) = some (.inr (s.1, s.2.1, s.2.2.1, s.2.2.2)) ∧ ∀ r ∈ s.2.2.2.drop i, fairP r) ∨
    (∃ j : Nat, f31.L1018001007000_3 N k (s.2.2.2, (s.2.2.2.length : Int), (i : Int), s.1, s.2.1, s.2.2.1, s.2.2.2) = some (.inl ((j : Int), s.1, s.2.1, s.2.2.1, s.2.2.2)) ∧ ¬ ∀ r ∈ s.2.2.2.drop i, fairP r)
  | 0, i, _, h2 => by omega
  | k + 1, i, h1, h2 => by
    by_cases hi : i < s.2.2.2.length
    · have hd : s.2.2.2.drop i = s.2.2.2[i] :: s.2.2.2.drop (i + 1) := List.drop_eq_getElem_cons hi
      rw [f31.L1018001007000_3_succ, lt_dec hi, cond_true, idx_get (List.getElem?_eq_getElem hi), Option.bind_some]
      have := f57_any N s.2.2.2[i]
      rw [this, Option.bind_some, hd]
      by_cases hf : fairP s.2.2.2[i]
      · rw [decide_eq_true hf, Bool.not_true, cond_false, wi64_succ (by omega)]
        rcases loop31_any N s h k (i + 1) hi (by omega) with ⟨q1, q2⟩ | ⟨j, q1, q2⟩
        · exact .inl ⟨q1, by simp only [List.mem_cons, forall_eq_or_imp]; exact ⟨hf, q2⟩⟩
        · exact .inr ⟨j, q1, fun q => q2 fun r hr => q r (List.mem_cons_of_mem _ hr)⟩
      · rw [decide_eq_false hf, Bool.not_false, cond_true]
        exact .inr ⟨i, rfl, fun q => hf (q _ (List.mem_cons_self ..))⟩
    · have : i = s.2.2.2.length := by omega
      subst this
      rw [f31.L1018001007000_3_succ, ge_dec, cond_false]
      exact .inl ⟨rfl, by simp⟩
theorem f31_any (N : Nat) (hN : 1000 ≤ N) (s : State) : F31 N [s] = some (decide (wholeP s)) := by
  obtain ⟨K, rfl⟩ : ∃ K, N = K + 2 := ⟨N - 2, by omega⟩
  generalize hM : K + 2 = M
  have hM' : 1000 ≤ M := by omega
  rw [F31_eq]
  have fin : ∀ k, f31.L0_3 M (k + 1) ([s], (([s] : List State).length : Int), wi64 (0 + 1)) = some (.inr ()) := by
    intro k
    rw [f31.L0_3_succ]
    rfl
  have key : f31.L0_3 M (K + 2) ([s], (([s] : List State).length : Int), 0) = some (if wholeP s then .inr () else .inl false) := by
    rw [f31.L0_3_succ, show decide ((0 : Int) < (([s] : List State).length : Int)) = true from rfl, cond_true, show idx [s] 0 = some s from rfl, Option.bind_some]
    by_cases h1 : s.2.2.2.length ≤ 16
    · rw [decide_eq_false (show ¬ (s.2.2.2.length : Int) > 16 by omega), cond_false]
      rcases loop31_any M s h1 M 0 (by omega) (by omega) with ⟨q1, q2⟩ | ⟨j, q1, q2⟩
      · rw [show ((0 : Nat) : Int) = 0 from rfl] at q1
        rw [q1, Option.bind_some, if_pos ⟨h1, by simpa using q2⟩]
        exact fin _
      · rw [show ((0 : Nat) : Int) = 0 from rfl] at q1
        rw [q1, Option.bind_some, if_neg fun h => q2 (by simpa using h.2)]
        simp only [decide_eq_true (show ((j : Int) ≥ 0) by omega), cond_true]
    · rw [decide_eq_true (show (s.2.2.2.length : Int) > 16 by omega), cond_true, if_neg fun h => h1 h.1]
  rw [hM] at key
  rw [key, Option.bind_some]
  by_cases hw : wholeP s
  · rw [if_pos hw, decide_eq_true hw]
  · rw [if_neg hw, decide_eq_false hw]
end Go.Proofs.Ytdefleeofgekkaa

namespace Go.Proofs.Ytdefleeofgekkaa
open Go Go.Eng Go.Sym
attribute [local instance] Classical.propDecidable

theorem f74_ok (N : Nat) (hN : 1000 ≤ N) (u v : List FrameState) (hu : u.length ≤ 1000) (hv : v.length ≤ 1000) : F74 N [u, v] = some (u ++ v) := by
  obtain ⟨K, rfl⟩ : ∃ K, N = K + 3 := ⟨N - 3, by omega⟩
  generalize hM : K + 3 = M
  rw [F74_eq]
  have hw1 : wi64 (0 + (u.length : Int)) = (u.length : Int) := by rw [wi64_in (by omega)]; omega
  have hw2 : wi64 ((u.length : Int) + (v.length : Int)) = ((u.length + v.length : Nat) : Int) := by rw [wi64_in (by omega)]; omega
  have key : f74.L0_4 M (K + 3) ([u, v], 0, [u, v], (([u, v] : List (List FrameState)).length : Int), 0) = some ([u, v], ((u.length + v.length : Nat) : Int)) := by
    rw [f74.L0_4_succ, show decide ((0 : Int) < (([u, v] : List (List FrameState)).length : Int)) = true from rfl, cond_true, show idx [u, v] 0 = some u from rfl, Option.bind_some, hw1,
      decide_eq_false (show ¬ ((u.length : Int) < 0) by omega), cond_false, show wi64 ((0 : Int) + 1) = 1 from rfl]
    rw [f74.L0_4_succ, show decide ((1 : Int) < (([u, v] : List (List FrameState)).length : Int)) = true from rfl, cond_true, show idx [u, v] 1 = some v from rfl, Option.bind_some, hw2,
      decide_eq_false (show ¬ (((u.length + v.length : Nat) : Int) < 0) by omega), cond_false, show wi64 ((1 : Int) + 1) = 2 from rfl]
    rw [f74.L0_4_succ, show decide ((2 : Int) < (([u, v] : List (List FrameState)).length : Int)) = false from rfl, cond_false]
  have key2 : f74.L0_17 M (K + 3) ([u, v], (([u, v] : List (List FrameState)).length : Int), 0, []) = some (u ++ v) := by
    rw [f74.L0_17_succ, show decide ((0 : Int) < (([u, v] : List (List FrameState)).length : Int)) = true from rfl, cond_true, show idx [u, v] 0 = some u from rfl, Option.bind_some,
      chk_of (room_of (by simp; omega) (by simp; omega)), show wi64 ((0 : Int) + 1) = 1 from rfl, List.nil_append]
    rw [f74.L0_17_succ, show decide ((1 : Int) < (([u, v] : List (List FrameState)).length : Int)) = true from rfl, cond_true, show idx [u, v] 1 = some v from rfl, Option.bind_some,
      chk_of (room_of (by omega) (by omega)), show wi64 ((1 : Int) + 1) = 2 from rfl]
    rw [f74.L0_17_succ, show decide ((2 : Int) < (([u, v] : List (List FrameState)).length : Int)) = false from rfl, cond_false]
  rw [hM] at key key2
  refine bindE _ key ?_
  simp only
  rw [decide_eq_false (show ¬ (((u.length + v.length : Nat) : Int) < 0) by omega), cond_false, show wi64 ((0 : Int) - 0) = 0 from rfl, show ((u.length + v.length : Nat) : Int) - 0 = ((u.length + v.length : Nat) : Int) by omega, wi64_in (by omega)]
  by_cases h0 : 0 < u.length + v.length
  · rw [decide_eq_true (show ((u.length + v.length : Nat) : Int) > 0 by omega), cond_true, chk_of (by simp), chk_of (decide_eq_true (by omega)), chk_of (room_of (by omega) (by omega)), chk_of (room_of (by simp; omega) (by simp; omega)), chk_of (by simp)]
    simp only [Nat.sub_zero, List.take_zero, key2, Option.bind_some]
  · rw [decide_eq_false (show ¬ (((u.length + v.length : Nat) : Int) > 0) by omega), cond_false]
    simp only [key2, Option.bind_some]

theorem f42_ok (N : Nat) (hN : 1000 ≤ N) (s : State) (h : okS s) : F42 N s = some s := by
  obtain ⟨p0, p1, p2, l⟩ := s
  have hb : l.length ≤ 20 := h.1
  have hr : ∀ r ∈ l, okR r := h.2
  rw [F42_eq, chk_of (room_of (by omega) (by omega))]
  have key := loop_up (n := l.length) (Lf := fun k i => f42.L0_4 N k ((l.length : Int), i, p0, p1, p2, l, 0, 0, 0)) (g := fun _ => some (p0, p1, p2, l, 0, 0, 0))
    (fun k => by simp only [f42.L0_4_succ, ge_dec, cond_false]) (fun k i hi ih => by
      have hg := List.getElem?_eq_getElem hi
      simp only [f42.L0_4_succ, lt_dec hi, cond_true, chk_of (inR_lt hi), Int.toNat_natCast, hg, Option.bind_some]
      have := f33_ok N hN l[i].1 l[i].2.1 l[i].2.2.1 l[i].2.2.2.1 l[i].2.2.2.2 (hr _ (List.getElem_mem hi))
      rw [this, Option.bind_some, wi64_succ (by omega)]
      rw [show l.set i (l[i].1, l[i].2.1, l[i].2.2.1, l[i].2.2.2.1, l[i].2.2.2.2) = l from set_self hg]
      exact ih) N 0 (by omega) (by omega)
  refine bindE _ key rfl
end Go.Proofs.Ytdefleeofgekkaa

namespace Go.Proofs.Ytdefleeofgekkaa
open Go Go.Eng Go.Sym
attribute [local instance] Classical.propDecidable

/-- what is left of an edit when all that its kind uses is taken away -/
noncomputable def resid (e : Edit) : Option Edit :=
  if e.1 = 1 then some (0, e.2.1, e.2.2.1, 0, 0, 0, e.2.2.2.2.2.2)
  else if e.1 = 2 then some (0, 0, e.2.2.1, e.2.2.2.1, e.2.2.2.2.1, e.2.2.2.2.2.1, 0, 0, e.2.2.2.2.2.2.2.2)
  else if e.1 = 3 then some (0, 0, 0, e.2.2.2.1, e.2.2.2.2.1, e.2.2.2.2.2.1, e.2.2.2.2.2.2.1, e.2.2.2.2.2.2.2.1, [], e.2.2.2.2.2.2.2.2.2)
  else if e.1 = 4 then some (0, 0, e.2.2.1, e.2.2.2.1, e.2.2.2.2.1, e.2.2.2.2.2.1, e.2.2.2.2.2.2.1, e.2.2.2.2.2.2.2.1, e.2.2.2.2.2.2.2.2.1, [], e.2.2.2.2.2.2.2.2.2.2)
  else if e.1 = 5 then some (0, 0, e.2.2.1, e.2.2.2.1, e.2.2.2.2.1, e.2.2.2.2.2.1, e.2.2.2.2.2.2.1, e.2.2.2.2.2.2.2.1, e.2.2.2.2.2.2.2.2.1, e.2.2.2.2.2.2.2.2.2.1, [])
  else if e.1 = 6 then some (0, 0, e.2.2.1, e.2.2.2.1, e.2.2.2.2.1, e.2.2.2.2.2.1, e.2.2.2.2.2.2)
  else if e.1 = 7 then some (0, e.2.1, e.2.2.1, e.2.2.2.1, e.2.2.2.2.1, e.2.2.2.2.2.1, 0, 0, [], [], [])
  else none
def zeroP (e : Edit) : Prop := e.2.1 = 0 ∧ e.2.2.1 = 0 ∧ e.2.2.2.1 = 0 ∧ e.2.2.2.2.1 = 0 ∧ e.2.2.2.2.2.1 = 0 ∧ e.2.2.2.2.2.2 = (0, 0, [], [], [])
def bndP (e : Edit) : Prop := 0 ≤ e.2.1 ∧ e.2.1 < 16 ∧ 0 ≤ e.2.2.1 ∧ e.2.2.1 ≤ 170
def goodP (e : Edit) : Prop := bndP e ∧ ∃ y, resid e = some y ∧ zeroP y
theorem okR_e1 {r : RoutineState} (h : okR r) (a b : Int) : okR (a, b, r.2.2) := h
theorem okR_e3 {r : RoutineState} (h : okR r) : okR (r.1, r.2.1, [], r.2.2.2) := ⟨by simp, h.2.1, h.2.2.1, by simp, h.2.2.2.2.1, h.2.2.2.2.2⟩
theorem okR_e4 {r : RoutineState} (h : okR r) : okR (r.1, r.2.1, r.2.2.1, [], r.2.2.2.2) := ⟨h.1, by simp, h.2.2.1, h.2.2.2.1, by simp, h.2.2.2.2.2⟩
theorem okR_e5 {r : RoutineState} (h : okR r) : okR (r.1, r.2.1, r.2.2.1, r.2.2.2.1, []) := ⟨h.1, h.2.1, by simp, h.2.2.2.1, h.2.2.2.2.1, by simp⟩
theorem okR_0 : okR (0, 0, [], [], []) := okR_1 0 0
theorem f21_tail (N : Nat) (hN : 1000 ≤ N) (a6 : Edit) (h : okR a6.2.2.2.2.2.2) : (Option.bind ((bif (a6.2.1 != (0 : Int))
        then some true
        else (bif (a6.2.2.1 != (0 : Int))
          then some true
          else (bif (a6.2.2.2.1 != (0 : Int))
            then some true
            else (bif (a6.2.2.2.2.1 != (0 : Int))
              then some true
              else (bif (a6.2.2.2.2.2.1 != (0 : Int))
                then some true
                else (Option.bind (F37 N (a6.2.2.2.2.2.2.1, a6.2.2.2.2.2.2.2.1, a6.2.2.2.2.2.2.2.2.1, a6.2.2.2.2.2.2.2.2.2.1, a6.2.2.2.2.2.2.2.2.2.2, (0 : Int), (0 : Int), [], [], [])) fun y8 =>
                  some (!y8)))))))) fun y9 =>
      (bif y9
      then some (8 : Int)
      else some (0 : Int))) = some (if zeroP a6 then 0 else 8) := by
  obtain ⟨q0, q1, q2, q3, q4, q5, q6, q7, q8, q9, q10⟩ := a6
  simp only at h
  by_cases h1 : q1 = 0
  · by_cases h2 : q2 = 0
    · by_cases h3 : q3 = 0
      · by_cases h4 : q4 = 0
        · by_cases h5 : q5 = 0
          · rw [f37_ok q6 q7 q8 q9 q10 0 0 [] [] [] N hN h]
            subst h1 h2 h3 h4 h5
            by_cases h6 : ((q6, q7, q8, q9, q10) : RoutineState) = (0, 0, [], [], [])
            · rw [decide_eq_true h6, if_pos (show zeroP _ from ⟨rfl, rfl, rfl, rfl, rfl, h6⟩)]; rfl
            · rw [decide_eq_false h6, if_neg fun h => h6 h.2.2.2.2.2]; rfl
          · rw [if_neg fun h => h5 h.2.2.2.2.1]
            simp [h1, h2, h3, h4, h5, bne, Bool.cond_eq_ite]
        · rw [if_neg fun h => h4 h.2.2.2.1]
          simp [h1, h2, h3, h4, bne, Bool.cond_eq_ite]
      · rw [if_neg fun h => h3 h.2.2.1]
        simp [h1, h2, h3, bne, Bool.cond_eq_ite]
    · rw [if_neg fun h => h2 h.2.1]
      simp [h1, h2, bne, Bool.cond_eq_ite]
  · rw [if_neg fun h => h1 h.1]
    simp [h1, bne, Bool.cond_eq_ite]
theorem f21_ok (N : Nat) (hN : 1000 ≤ N) (e : Edit) (h : okE e) : F21 N e = some (if goodP e then 0 else 8) := by
  obtain ⟨p0, p1, p2, p3, p4, p5, p6, p7, p8, p9, p10⟩ := e
  have h : okR (p6, p7, p8, p9, p10) := h
  rw [F21_eq, f45_ok N _ h, Option.bind_some, Bool.not_true, cond_false]
  by_cases b1 : p1 < 0
  · rw [decide_eq_true b1, cond_true, if_neg fun g => absurd b1 (by have := g.1.1; simp only at this; omega)]; rfl
  rw [decide_eq_false b1, cond_false]
  by_cases b2 : p1 ≥ 16
  · rw [decide_eq_true b2, cond_true, if_neg fun g => absurd b2 (by have := g.1.2.1; simp only at this; omega)]; rfl
  rw [decide_eq_false b2, cond_false]
  by_cases b3 : p2 < 0
  · rw [decide_eq_true b3, cond_true, if_neg fun g => absurd b3 (by have := g.1.2.2.1; simp only at this; omega)]; rfl
  rw [decide_eq_false b3, cond_false]
  by_cases b4 : p2 > 170
  · rw [decide_eq_true b4, Option.bind_some, cond_true, if_neg fun g => absurd b4 (by have := g.1.2.2.2; simp only at this; omega)]; rfl
  rw [decide_eq_false b4, Option.bind_some, cond_false, Option.bind_some]
  have hb : bndP (p0, p1, p2, p3, p4, p5, p6, p7, p8, p9, p10) := ⟨by simp only; omega, by simp only; omega, by simp only; omega, by simp only; omega⟩
  have fin : ∀ a6 : Edit, resid (p0, p1, p2, p3, p4, p5, p6, p7, p8, p9, p10) = some a6 → (if zeroP a6 then (0 : Int) else 8) = if goodP (p0, p1, p2, p3, p4, p5, p6, p7, p8, p9, p10) then 0 else 8 := by
    intro a6 hr
    by_cases hz : zeroP a6
    · rw [if_pos hz, if_pos ⟨hb, a6, hr, hz⟩]
    · rw [if_neg hz, if_neg]
      rintro ⟨_, y, hy, hy'⟩
      rw [hr] at hy; injection hy with hy; subst hy
      exact hz hy'
  simp only
  by_cases k1 : p0 = 1
  · subst k1
    refine bindE (.inl (0, p1, p2, 0, 0, 0, p6, p7, p8, p9, p10)) (by simp) ((f21_tail N hN (0, p1, p2, 0, 0, 0, p6, p7, p8, p9, p10) h).trans (congrArg some (fin _ (by simp [resid]))))
  by_cases k2 : p0 = 2
  · subst k2
    refine bindE (.inl (0, 0, p2, p3, p4, p5, 0, 0, p8, p9, p10)) (by simp) ((f21_tail N hN (0, 0, p2, p3, p4, p5, 0, 0, p8, p9, p10) (okR_e1 h 0 0)).trans (congrArg some (fin _ (by simp [resid]))))
  by_cases k3 : p0 = 3
  · subst k3
    refine bindE (.inl (0, 0, 0, p3, p4, p5, p6, p7, [], p9, p10)) (by simp) ((f21_tail N hN (0, 0, 0, p3, p4, p5, p6, p7, [], p9, p10) (okR_e3 h)).trans (congrArg some (fin _ (by simp [resid]))))
  by_cases k4 : p0 = 4
  · subst k4
    refine bindE (.inl (0, 0, p2, p3, p4, p5, p6, p7, p8, [], p10)) (by simp) ((f21_tail N hN (0, 0, p2, p3, p4, p5, p6, p7, p8, [], p10) (okR_e4 h)).trans (congrArg some (fin _ (by simp [resid]))))
  by_cases k5 : p0 = 5
  · subst k5
    refine bindE (.inl (0, 0, p2, p3, p4, p5, p6, p7, p8, p9, [])) (by simp) ((f21_tail N hN (0, 0, p2, p3, p4, p5, p6, p7, p8, p9, []) (okR_e5 h)).trans (congrArg some (fin _ (by simp [resid]))))
  by_cases k6 : p0 = 6
  · subst k6
    refine bindE (.inl (0, 0, p2, p3, p4, p5, p6, p7, p8, p9, p10)) (by simp) ((f21_tail N hN (0, 0, p2, p3, p4, p5, p6, p7, p8, p9, p10) h).trans (congrArg some (fin _ (by simp [resid]))))
  by_cases k7 : p0 = 7
  · subst k7
    refine bindE (.inl (0, p1, p2, p3, p4, p5, 0, 0, [], [], [])) (by simp) ((f21_tail N hN (0, p1, p2, p3, p4, p5, 0, 0, [], [], []) okR_0).trans (congrArg some (fin _ (by simp [resid]))))
  refine bindE (.inr 8) (by simp [Bool.cond_eq_ite, k1, k2, k3, k4, k5, k6, k7]) ?_
  rw [if_neg]
  rintro ⟨_, y, hy, _⟩
  simp [resid, k1, k2, k3, k4, k5, k6, k7] at hy

theorem f72_ok (N : Nat) (hN : 1000 ≤ N) (e : Edit) (h : okE e) : F72 N e = some (!decide (goodP e)) := by
  obtain ⟨p0, p1, p2, p3, p4, p5, p6, p7, p8, p9, p10⟩ := e
  rw [F72_eq, f21_ok N hN _ h, Option.bind_some]
  by_cases g : goodP (p0, p1, p2, p3, p4, p5, p6, p7, p8, p9, p10)
  · rw [if_pos g, decide_eq_true g]; rfl
  · rw [if_neg g, decide_eq_false g]; rfl
noncomputable def checkS (l : List Edit) : Int := if l.length > 100 then 4 else if ∀ e ∈ l, goodP e then 0 else 8
theorem loop41 (N : Nat) (hN : 1000 ≤ N) (l : List Edit) (hb : l.length ≤ 100) (h : ∀ e ∈ l, okE e) : ∀ k i : Nat, i ≤ l.length → l.length - i < k →
    (f41.L1007001007000_3 N k (l, (l.length : Int), (i : Int)) = some (.inr ()) ∧ ∀ r ∈ l.drop i, goodP r) ∨
    (∃ j : Nat, f41.L1007001007000_3 N k (l, (l.length : Int), (i : Int)) = some (.inl (j : Int)) ∧ ¬ ∀ r ∈ l.drop i, goodP r)
  | 0, i, _, h2 => by omega
  | k + 1, i, h1, h2 => by
    by_cases hi : i < l.length
    · have hd : l.drop i = l[i] :: l.drop (i + 1) := List.drop_eq_getElem_cons hi
      rw [f41.L1007001007000_3_succ, lt_dec hi, cond_true, idx_get (List.getElem?_eq_getElem hi), Option.bind_some]
      have := f72_ok N hN l[i] (h _ (List.getElem_mem hi))
      rw [this, Option.bind_some, hd]
      by_cases hf : goodP l[i]
      · rw [decide_eq_true hf, Bool.not_true, cond_false, wi64_succ (by omega)]
        rcases loop41 N hN l hb h k (i + 1) hi (by omega) with ⟨q1, q2⟩ | ⟨j, q1, q2⟩
        · exact .inl ⟨q1, by simp only [List.mem_cons, forall_eq_or_imp]; exact ⟨hf, q2⟩⟩
        · exact .inr ⟨j, q1, fun q => q2 fun r hr => q r (List.mem_cons_of_mem _ hr)⟩
      · rw [decide_eq_false hf, Bool.not_false, cond_true]
        exact .inr ⟨i, rfl, fun q => hf (q _ (List.mem_cons_self ..))⟩
    · have : i = l.length := by omega
      subst this
      rw [f41.L1007001007000_3_succ, ge_dec, cond_false]
      exact .inl ⟨rfl, by simp⟩
theorem f41_ok (N : Nat) (hN : 1000 ≤ N) (l : List Edit) (h : ∀ e ∈ l, okE e) : F41 N l = some (checkS l) := by
  rw [F41_eq, checkS]
  by_cases h1 : l.length > 100
  · rw [decide_eq_true (show (l.length : Int) > 100 by omega), cond_true, if_pos h1]
  · rw [decide_eq_false (show ¬ (l.length : Int) > 100 by omega), cond_false, if_neg h1]
    rcases loop41 N hN l (by omega) h N 0 (by omega) (by omega) with ⟨q1, q2⟩ | ⟨j, q1, q2⟩
    · rw [show ((0 : Nat) : Int) = 0 from rfl] at q1
      rw [q1, Option.bind_some, if_pos (by simpa using q2)]
    · rw [show ((0 : Nat) : Int) = 0 from rfl] at q1
      rw [q1, Option.bind_some, if_neg fun h => q2 (by simpa using h)]
      simp only [decide_eq_true (show ((j : Int) ≥ 0) by omega), cond_true]
end Go.Proofs.Ytdefleeofgekkaa

namespace Go.Proofs.Ytdefleeofgekkaa
open Go Go.Eng Go.Sym
attribute [local instance] Classical.propDecidable

noncomputable def chkW (s : State) : Option State := if wholeP s then some s else none
noncomputable def stepS (s : State) (e : Edit) : Option State :=
  if e.1 = 1 then some (e.2.2.2.1, e.2.2.2.2.1, e.2.2.2.2.2.1, s.2.2.2)
  else if e.1 = 7 then chkW (s.1, s.2.1, s.2.2.1, s.2.2.2 ++ [e.2.2.2.2.2.2])
  else match s.2.2.2[e.2.1.toNat]? with
    | none => none
    | some x =>
      if e.1 = 2 then chkW (s.1, s.2.1, s.2.2.1, s.2.2.2.set e.2.1.toNat (e.2.2.2.2.2.2.1, e.2.2.2.2.2.2.2.1, x.2.2))
      else if e.1 = 3 then if (x.2.2.1.length : Int) < e.2.2.1 then none else
        chkW (s.1, s.2.1, s.2.2.1, s.2.2.2.set e.2.1.toNat (x.1, x.2.1, e.2.2.2.2.2.2.2.2.1 ++ x.2.2.1.drop ((x.2.2.1.length : Int) - e.2.2.1).toNat, x.2.2.2))
      else if e.1 = 4 then chkW (s.1, s.2.1, s.2.2.1, s.2.2.2.set e.2.1.toNat (x.1, x.2.1, x.2.2.1, e.2.2.2.2.2.2.2.2.2.1, x.2.2.2.2))
      else if e.1 = 5 then chkW (s.1, s.2.1, s.2.2.1, s.2.2.2.set e.2.1.toNat (x.1, x.2.1, x.2.2.1, x.2.2.2.1, e.2.2.2.2.2.2.2.2.2.2))
      else if e.1 = 6 then chkW (s.1, s.2.1, s.2.2.1, s.2.2.2.take e.2.1.toNat)
      else chkW s
noncomputable def runE (s : State) : List Edit → Option State
  | [] => some s
  | e :: l => (stepS s e).bind fun s' => runE s' l
theorem runE_append (s : State) (l m : List Edit) : runE s (l ++ m) = (runE s l).bind fun s' => runE s' m := by
  induction l generalizing s with
  | nil => rfl
  | cons e l ih =>
    simp only [List.cons_append, runE]
    cases stepS s e with
    | none => rfl
    | some s' => simp only [Option.bind_some, ih]
theorem chkW_whole {s t : State} (h : chkW s = some t) : t = s ∧ wholeP t := by
  unfold chkW at h
  split at h
  · injection h with h; subst h; exact ⟨rfl, by assumption⟩
  · cases h
theorem stepS_whole {s t : State} {e : Edit} (hw : wholeP s) (h : stepS s e = some t) : wholeP t := by
  unfold stepS at h
  split at h
  · injection h with h; subst h; exact hw
  · split at h
    · exact (chkW_whole h).2
    · split at h
      · cases h
      · split at h
        · exact (chkW_whole h).2
        · split at h
          · split at h
            · cases h
            · exact (chkW_whole h).2
          · split at h
            · exact (chkW_whole h).2
            · split at h
              · exact (chkW_whole h).2
              · split at h <;> exact (chkW_whole h).2

/-- the text of the loop after an edit -/
theorem chkW_bind {β : Type} (N : Nat) (hN : 1000 ≤ N) (s : State) (A B : Option β) : (Option.bind (F31 N [s]) fun y => (bif (!y) then A else B)) = match chkW s with | some _ => B | none => A := by
  rw [f31_any N hN, Option.bind_some]
  unfold chkW
  by_cases h : wholeP s
  · rw [decide_eq_true h, if_pos h]; rfl
  · rw [decide_eq_false h, if_neg h]; rfl
abbrev Res18 := (Int × Int × Int × Int) ⊕ (Int × Int × Int × Int × Int × Int × List RoutineState)
noncomputable def res18 (o : Option State) : Option Res18 := some (match o with | some s => .inr (0, 0, 0, s.1, s.2.1, s.2.2.1, s.2.2.2) | none => .inl (2, 0, 0, 0))
theorem step18 (N : Nat) (hN : 1000 ≤ N) (l : List Edit) (k i : Nat) (hi : i < l.length) (hl : l.length ≤ 1000) (s : State) (hw : wholeP s) (he : okE l[i]) (hg : 0 ≤ l[i].2.1 ∧ 0 ≤ l[i].2.2.1 ∧ l[i].2.2.1 ≤ 170)
    (ih : ∀ s', wholeP s' → f18.L0_11 N k (l, (l.length : Int), ((i + 1 : Nat) : Int), 0, 0, 0, s'.1, s'.2.1, s'.2.2.1, s'.2.2.2) = res18 (runE s' (l.drop (i + 1)))) :
    f18.L0_11 N (k + 1) (l, (l.length : Int), (i : Int), 0, 0, 0, s.1, s.2.1, s.2.2.1, s.2.2.2) = res18 (runE s (l.drop i)) := by
  have hd : l.drop i = l[i] :: l.drop (i + 1) := List.drop_eq_getElem_cons hi
  rw [hd, runE, f18.L0_11_succ, lt_dec hi, cond_true, idx_get (List.getElem?_eq_getElem hi), Option.bind_some]
  generalize l[i] = e at he hg ⊢
  obtain ⟨kd, g, n, oc, fl, st, r⟩ := e
  obtain ⟨o, f, t, rs⟩ := s
  have hl16 : rs.length ≤ 16 := hw.1
  have hfr : ∀ r ∈ rs, fairP r := hw.2
  simp only at hg ⊢
  have h33 := f33_ok N hN r.1 r.2.1 r.2.2.1 r.2.2.2.1 r.2.2.2.2 he
  rw [h33, Option.bind_some, wi64_succ (by omega)]
  have go : ∀ s' : State, (match chkW s' with | some _ => f18.L0_11 N k (l, (l.length : Int), ((i + 1 : Nat) : Int), 0, 0, 0, s'.1, s'.2.1, s'.2.2.1, s'.2.2.2) | none => some (Sum.inl ((2 : Int), (0 : Int), (0 : Int), (0 : Int)))) = res18 ((chkW s').bind fun s' => runE s' (l.drop (i + 1))) := by
    intro s'
    cases hc : chkW s' with
    | none => rfl
    | some t =>
      obtain ⟨rfl, hw'⟩ := chkW_whole hc
      exact ih _ hw'
  by_cases k1 : kd = 1
  · subst k1
    simp only [stepS, if_true, Option.bind_some, show ((1 : Int) == 1) = true from rfl, cond_true]
    exact ih (oc, fl, st, rs) hw
  by_cases k7 : kd = 7
  · subst k7
    simp only [stepS, show ((7 : Int) == 1) = false from rfl, show ((7 : Int) == 7) = true from rfl, cond_true, cond_false, if_true, if_neg k1]
    rw [chk_of (room_of (by omega) (by omega)), chkW_bind N hN]
    exact go (o, f, t, rs ++ [r])
  have b1 : (kd == (1 : Int)) = false := by simpa using k1
  have b7 : (kd == (7 : Int)) = false := by simpa using k7
  simp only [stepS, b1, b7, cond_false, if_neg k1, if_neg k7]
  by_cases hgr : g ≥ (rs.length : Int)
  · rw [decide_eq_true hgr, cond_true, List.getElem?_eq_none (show rs.length ≤ g.toNat by omega)]
    rfl
  · rw [decide_eq_false hgr, cond_false]
    obtain ⟨m, rfl⟩ : ∃ m : Nat, g = (m : Int) := ⟨g.toNat, by omega⟩
    have hm : m < rs.length := by omega
    simp only [Int.toNat_natCast]
    rw [chk_of (inR_lt hm), List.getElem?_eq_getElem hm]
    simp only [Option.bind_some]
    have hx : fairP rs[m] := hfr _ (List.getElem_mem hm)
    generalize rs[m] = x at hx ⊢
    obtain ⟨x0, x1, xf, xd, xp⟩ := x
    have hxf : xf.length ≤ 170 := hx.1
    by_cases k2 : kd = 2
    · subst k2
      simp only [show ((2 : Int) == 2) = true from rfl, cond_true, if_true]
      rw [List.getElem?_set_self hm, Option.bind_some, List.set_set, chkW_bind N hN]
      exact go (o, f, t, rs.set m (r.1, r.2.1, xf, xd, xp))
    have b2 : (kd == (2 : Int)) = false := by simpa using k2
    simp only [b2, cond_false, if_neg k2]
    by_cases k3 : kd = 3
    · subst k3
      simp only [show ((3 : Int) == 3) = true from rfl, cond_true, if_true]
      rw [wi64_in (by omega)]
      by_cases hn : (xf.length : Int) < n
      · rw [decide_eq_true (show (xf.length : Int) - n < 0 by omega), cond_true, if_pos hn]
        rfl
      · rw [decide_eq_false (show ¬ (xf.length : Int) - n < 0 by omega), cond_false, if_neg hn, chk_of (decide_eq_true (by omega)), chk_of (decide_eq_true (by omega)),
          f74_ok N hN _ _ (by have : r.2.2.1.length ≤ 12 := he.1; omega) (by simp; omega), Option.bind_some, chkW_bind N hN]
        exact go (o, f, t, rs.set m (x0, x1, r.2.2.1 ++ xf.drop ((xf.length : Int) - n).toNat, xd, xp))
    have b3 : (kd == (3 : Int)) = false := by simpa using k3
    simp only [b3, cond_false, if_neg k3]
    by_cases k4 : kd = 4
    · subst k4
      simp only [show ((4 : Int) == 4) = true from rfl, cond_true, if_true]
      rw [chkW_bind N hN]
      exact go (o, f, t, rs.set m (x0, x1, xf, r.2.2.2.1, xp))
    have b4 : (kd == (4 : Int)) = false := by simpa using k4
    simp only [b4, cond_false, if_neg k4]
    by_cases k5 : kd = 5
    · subst k5
      simp only [show ((5 : Int) == 5) = true from rfl, cond_true, if_true]
      rw [chkW_bind N hN]
      exact go (o, f, t, rs.set m (x0, x1, xf, xd, r.2.2.2.2))
    have b5 : (kd == (5 : Int)) = false := by simpa using k5
    simp only [b5, cond_false, if_neg k5]
    by_cases k6 : kd = 6
    · subst k6
      simp only [show ((6 : Int) == 6) = true from rfl, cond_true, if_true]
      rw [chk_of (by simp), chk_of (decide_eq_true (by omega)), chkW_bind N hN]
      exact go (o, f, t, rs.take m)
    have b6 : (kd == (6 : Int)) = false := by simpa using k6
    simp only [b6, cond_false, if_neg k6]
    rw [chkW_bind N hN]
    exact go (o, f, t, rs)

theorem loop18 (N : Nat) (hN : 1000 ≤ N) (l : List Edit) (hl : l.length ≤ 100) (he : ∀ e ∈ l, okE e) (hg : ∀ e ∈ l, goodP e) : ∀ (k i : Nat) (s : State), i ≤ l.length → l.length - i < k → wholeP s →
    f18.L0_11 N k (l, (l.length : Int), (i : Int), 0, 0, 0, s.1, s.2.1, s.2.2.1, s.2.2.2) = res18 (runE s (l.drop i))
  | 0, i, s, _, h2, _ => by omega
  | k + 1, i, s, h1, h2, hw => by
    by_cases hi : i < l.length
    · have hm := List.getElem_mem hi
      have hb := (hg _ hm).1
      exact step18 N hN l k i hi (by omega) s hw (he _ hm) ⟨hb.1, hb.2.2.1, hb.2.2.2⟩ fun s' hw' => loop18 N hN l hl he hg k (i + 1) s' hi (by omega) hw'
    · have : i = l.length := by omega
      subst this
      rw [f18.L0_11_succ, ge_dec, cond_false, List.drop_length]
      rfl
noncomputable def applyR (s : State) (l : List Edit) : State × Int :=
  if checkS l = 0 then match runE s l with | some s' => (s', 0) | none => ((0, 0, 0, []), 2) else ((0, 0, 0, []), checkS l)
theorem f18_ok (N : Nat) (hN : 1000 ≤ N) (s : State) (hs : okS s) (hw : wholeP s) (l : List Edit) (he : ∀ e ∈ l, okE e) :
    F18 N (s.1, s.2.1, s.2.2.1, s.2.2.2, l) = some ((applyR s l).1.1, (applyR s l).1.2.1, (applyR s l).1.2.2.1, (applyR s l).1.2.2.2, (applyR s l).2) := by
  have h31 := f31_any N hN s
  have h42 := f42_ok N hN s hs
  rw [F18_eq, h31, Option.bind_some, decide_eq_true hw, Bool.not_true, cond_false, f41_ok N hN l he, Option.bind_some]
  unfold applyR
  by_cases hc : checkS l = 0
  · rw [if_pos hc, hc, show ((0 : Int) != 0) = false from rfl, cond_false, h42, Option.bind_some]
    have hlen : l.length ≤ 100 := by
      unfold checkS at hc
      split at hc
      · cases hc
      · omega
    have hgood : ∀ e ∈ l, goodP e := by
      unfold checkS at hc
      rw [if_neg (by omega)] at hc
      split at hc
      · assumption
      · cases hc
    have key := loop18 N hN l hlen he hgood N 0 s (by omega) (by omega) hw
    rw [List.drop_zero] at key
    rw [show ((0 : Nat) : Int) = 0 from rfl] at key
    rw [key]
    cases runE s l with
    | none => rfl
    | some s' => rfl
  · rw [if_neg hc, show (checkS l != 0) = true from by simpa using hc, cond_true]
end Go.Proofs.Ytdefleeofgekkaa

namespace Go.Proofs.Ytdefleeofgekkaa
open Go Go.Eng Go.Sym
attribute [local instance] Classical.propDecidable

/- ## What two lists of frames have in common -/
theorem csr_self : ∀ l : List FrameState, csr l l = l.length
  | [] => rfl
  | x :: xs => by simp [csr, csr_self xs]
theorem cmn_self (l : List FrameState) : cmn l l = l.length := by simp [cmn, csr_self]
theorem cmn_drop (a b : List FrameState) : a.drop (a.length - cmn a b) = b.drop (b.length - cmn a b) := by
  have h := cmn_le a b
  apply List.ext_getElem?
  intro i
  rw [List.getElem?_drop, List.getElem?_drop]
  by_cases hi : i < cmn a b
  · have := cmn_get (a := a) (b := b) (i := cmn a b - 1 - i) (by omega)
    rw [show a.length - 1 - (cmn a b - 1 - i) = a.length - cmn a b + i by omega, show b.length - 1 - (cmn a b - 1 - i) = b.length - cmn a b + i by omega] at this
    exact this
  · rw [List.getElem?_eq_none (by omega), List.getElem?_eq_none (by omega)]
theorem cmn_all {a b : List FrameState} (h : ¬ (cmn a b < a.length ∨ cmn a b < b.length)) : a = b := by
  have h1 := cmn_le a b
  have := cmn_drop a b
  rwa [show a.length - cmn a b = 0 by omega, show b.length - cmn a b = 0 by omega, List.drop_zero, List.drop_zero] at this
theorem cmn_join (a b : List FrameState) : b.take (b.length - cmn a b) ++ a.drop (a.length - cmn a b) = b := by rw [cmn_drop, List.take_append_drop]

/- ## Running -/
theorem run_opt {c : Prop} {s t : State} {e : Edit} (h : c → stepS s e = some t) (h' : ¬ c → s = t) : runE s (opt c e) = some t := by
  unfold opt
  by_cases hc : c
  · rw [if_pos hc]; simp only [runE, h hc, Option.bind_some]
  · rw [if_neg hc, h' hc]; rfl
theorem chkW_of {s : State} (h : wholeP s) : chkW s = some s := if_pos h
theorem get_mid {α : Type} (pre post : List α) (x : α) : (pre ++ x :: post)[pre.length]? = some x := by simp
theorem set_mid {α : Type} (pre post : List α) (x y : α) : (pre ++ x :: post).set pre.length y = pre ++ y :: post := by simp
theorem whole_mid {o f t : Int} {pre post : List RoutineState} {x y : RoutineState} (h : wholeP (o, f, t, pre ++ x :: post)) (hy : fairP y) : wholeP (o, f, t, pre ++ y :: post) := by
  obtain ⟨h1, h2⟩ := h
  refine ⟨by simpa using h1, fun r hr => ?_⟩
  simp only [List.mem_append, List.mem_cons] at hr h2
  rcases hr with hr | rfl | hr
  · exact h2 r (.inl hr)
  · exact hy
  · exact h2 r (.inr (.inr hr))
theorem betw_run {o f t : Int} {pre post : List RoutineState} {x y : RoutineState} (hw : wholeP (o, f, t, pre ++ x :: post)) (hy : fairP y) : runE (o, f, t, pre ++ x :: post) (betw (pre.length : Int) x y) = some (o, f, t, pre ++ y :: post) := by
  have hx : fairP x := hw.2 x (by simp)
  obtain ⟨x0, x1, xf, xd, xp⟩ := x
  obtain ⟨y0, y1, yf, yd, yp⟩ := y
  have hc := cmn_le xf yf
  have w1 := whole_mid hw (y := (y0, y1, xf, xd, xp)) hx
  have w2 := whole_mid hw (y := (y0, y1, yf, xd, xp)) ⟨hy.1, hx.2⟩
  have w3 := whole_mid hw (y := (y0, y1, yf, yd, xp)) ⟨hy.1, hy.2.1, hx.2.2⟩
  have w4 := whole_mid hw hy
  have r1 := run_opt (c := x0 ≠ y0 ∨ x1 ≠ y1) (s := (o, f, t, pre ++ (x0, x1, xf, xd, xp) :: post)) (t := (o, f, t, pre ++ (y0, y1, xf, xd, xp) :: post)) (e := (2, (pre.length : Int), 0, 0, 0, 0, y0, y1, [], [], []))
    (fun _ => by simp only [stepS, Int.toNat_natCast, get_mid, set_mid]; exact chkW_of w1) (fun h => by
      have h1 : x0 = y0 := Classical.byContradiction fun q => h (.inl q)
      have h2 : x1 = y1 := Classical.byContradiction fun q => h (.inr q)
      rw [h1, h2])
  have r2 := run_opt (c := cmn xf yf < xf.length ∨ cmn xf yf < yf.length) (s := (o, f, t, pre ++ (y0, y1, xf, xd, xp) :: post)) (t := (o, f, t, pre ++ (y0, y1, yf, xd, xp) :: post)) (e := (3, (pre.length : Int), (cmn xf yf : Int), 0, 0, 0, 0, 0, yf.take (yf.length - cmn xf yf), [], []))
    (fun _ => by
      simp only [stepS, Int.toNat_natCast, get_mid, set_mid]
      rw [show ((xf.length : Int) - (cmn xf yf : Int)).toNat = xf.length - cmn xf yf by omega, cmn_join]
      simp only [show ¬ ((xf.length : Int) < (cmn xf yf : Int)) by omega]
      exact chkW_of w2) (fun h => by rw [cmn_all h])
  have r3 := run_opt (c := xd ≠ yd) (s := (o, f, t, pre ++ (y0, y1, yf, xd, xp) :: post)) (t := (o, f, t, pre ++ (y0, y1, yf, yd, xp) :: post)) (e := (4, (pre.length : Int), 0, 0, 0, 0, 0, 0, [], yd, []))
    (fun _ => by simp only [stepS, Int.toNat_natCast, get_mid, set_mid]; exact chkW_of w3) (fun h => by rw [Classical.byContradiction fun q => h q])
  have r4 := run_opt (c := xp ≠ yp) (s := (o, f, t, pre ++ (y0, y1, yf, yd, xp) :: post)) (t := (o, f, t, pre ++ (y0, y1, yf, yd, yp) :: post)) (e := (5, (pre.length : Int), 0, 0, 0, 0, 0, 0, [], [], yp))
    (fun _ => by simp only [stepS, Int.toNat_natCast, get_mid, set_mid]; exact chkW_of w4) (fun h => by rw [Classical.byContradiction fun q => h q])
  simp only [betw, runE_append, r1, r2, r3, r4, Option.bind_some]
theorem bt_run {o f t : Int} : ∀ (xs ys pre : List RoutineState), wholeP (o, f, t, pre ++ xs) → (∀ r ∈ ys, fairP r) → runE (o, f, t, pre ++ xs) (bt pre.length xs ys) = some (o, f, t, pre ++ (ys.take xs.length ++ xs.drop ys.length))
  | [], ys, pre, _, _ => by simp [bt, runE]
  | x :: xs, [], pre, _, _ => by simp [bt, runE]
  | x :: xs, y :: ys, pre, hw, hy => by
    have h1 := betw_run hw (hy y (List.mem_cons_self ..))
    have hw' := whole_mid hw (hy y (List.mem_cons_self ..))
    have e : pre ++ y :: xs = (pre ++ [y]) ++ xs := by simp
    rw [e] at hw' h1
    have h2 := bt_run xs ys (pre ++ [y]) hw' fun r hr => hy r (List.mem_cons_of_mem _ hr)
    rw [bt, runE_append, h1, Option.bind_some]
    rw [List.length_append, List.length_singleton] at h2
    rw [h2]
    simp
theorem more_run {o f t : Int} : ∀ (l rs : List RoutineState), rs.length + l.length ≤ 16 → (∀ r ∈ rs, fairP r) → (∀ r ∈ l, fairP r) → runE (o, f, t, rs) (l.map fun x => ((7, 0, 0, 0, 0, 0, x) : Edit)) = some (o, f, t, rs ++ l)
  | [], rs, _, _, _ => by simp [runE]
  | x :: l, rs, h1, h2, h3 => by
    have hall : ∀ r ∈ rs ++ [x], fairP r := fun r hr => by
      rcases List.mem_append.1 hr with hr | hr
      · exact h2 r hr
      · rw [List.mem_singleton.1 hr]; exact h3 x (List.mem_cons_self ..)
    have hs : stepS (o, f, t, rs) (7, 0, 0, 0, 0, 0, x) = some (o, f, t, rs ++ [x]) := by
      simp only [stepS]
      exact chkW_of ⟨by simp at h1 ⊢; omega, hall⟩
    rw [List.map_cons, runE, hs, Option.bind_some, more_run l (rs ++ [x]) (by simp at h1 ⊢; omega) hall fun r hr => h3 r (List.mem_cons_of_mem _ hr)]
    simp
theorem list_run {a b : State} (ha : wholeP a) (hb : wholeP b) : runE a (listS a b) = some b := by
  obtain ⟨o, f, t, al⟩ := a
  obtain ⟨o', f', t', bl⟩ := b
  have l1 : al.length ≤ 16 := ha.1
  have l2 : bl.length ≤ 16 := hb.1
  have f1 : ∀ r ∈ al, fairP r := ha.2
  have f2 : ∀ r ∈ bl, fairP r := hb.2
  have r1 := run_opt (c := o ≠ o' ∨ f ≠ f' ∨ t ≠ t') (s := (o, f, t, al)) (t := (o', f', t', al)) (e := (1, 0, 0, o', f', t', 0, 0, [], [], [])) (fun _ => by simp only [stepS]; rfl) (fun h => by
    have h1 : o = o' := Classical.byContradiction fun q => h (.inl q)
    have h2 : f = f' := Classical.byContradiction fun q => h (.inr (.inl q))
    have h3 : t = t' := Classical.byContradiction fun q => h (.inr (.inr q))
    rw [h1, h2, h3])
  have r2 := bt_run (o := o') (f := f') (t := t') al bl [] ⟨l1, f1⟩ f2
  simp only [List.nil_append, List.length_nil] at r2
  have fm : ∀ r ∈ bl.take al.length, fairP r := fun r hr => f2 r (List.mem_of_mem_take hr)
  have r3 := run_opt (c := bl.length < al.length) (s := (o', f', t', bl.take al.length ++ al.drop bl.length)) (t := (o', f', t', bl.take al.length)) (e := (6, (bl.length : Int), 0, 0, 0, 0, 0, 0, [], [], []))
    (fun h => by
      have ht : bl.take al.length = bl := List.take_of_length_le (by omega)
      have hg : bl.length < (bl.take al.length ++ al.drop bl.length).length := by rw [ht]; simp; omega
      simp only [stepS, Int.toNat_natCast]
      rw [List.getElem?_eq_getElem hg]
      simp only [ht, List.take_left]
      exact chkW_of hb) (fun h => by rw [List.drop_eq_nil_of_le (by omega), List.append_nil])
  have r4 := more_run (o := o') (f := f') (t := t') (bl.drop al.length) (bl.take al.length) (by simp; omega) fm fun r hr => f2 r (List.mem_of_mem_drop hr)
  rw [List.take_append_drop] at r4
  simp only [listS, runE_append, r1, r2, r3, r4, Option.bind_some]
end Go.Proofs.Ytdefleeofgekkaa

namespace Go.Proofs.Ytdefleeofgekkaa
open Go Go.Eng Go.Sym
attribute [local instance] Classical.propDecidable

/- ## All of the edits are good -/
theorem good_1 (a b c : Int) : goodP (1, 0, 0, a, b, c, 0, 0, [], [], []) := ⟨⟨by simp, by simp, by simp, by simp⟩, _, by simp [resid]; rfl, ⟨rfl, rfl, rfl, rfl, rfl, rfl⟩⟩
theorem good_2 {g : Nat} (h : g < 16) (a b : Int) : goodP (2, (g : Int), 0, 0, 0, 0, a, b, [], [], []) := ⟨⟨by simp, by simp only; omega, by simp, by simp⟩, _, by simp [resid]; rfl, ⟨rfl, rfl, rfl, rfl, rfl, rfl⟩⟩
theorem good_3 {g n : Nat} (h : g < 16) (hn : n ≤ 170) (l : List FrameState) : goodP (3, (g : Int), (n : Int), 0, 0, 0, 0, 0, l, [], []) := ⟨⟨by simp, by simp only; omega, by simp, by simp only; omega⟩, _, by simp [resid]; rfl, ⟨rfl, rfl, rfl, rfl, rfl, rfl⟩⟩
theorem good_4 {g : Nat} (h : g < 16) (l : List DeferState) : goodP (4, (g : Int), 0, 0, 0, 0, 0, 0, [], l, []) := ⟨⟨by simp, by simp only; omega, by simp, by simp⟩, _, by simp [resid]; rfl, ⟨rfl, rfl, rfl, rfl, rfl, rfl⟩⟩
theorem good_5 {g : Nat} (h : g < 16) (l : List PanicState) : goodP (5, (g : Int), 0, 0, 0, 0, 0, 0, [], [], l) := ⟨⟨by simp, by simp only; omega, by simp, by simp⟩, _, by simp [resid]; rfl, ⟨rfl, rfl, rfl, rfl, rfl, rfl⟩⟩
theorem good_6 {g : Nat} (h : g < 16) : goodP (6, (g : Int), 0, 0, 0, 0, 0, 0, [], [], []) := ⟨⟨by simp, by simp only; omega, by simp, by simp⟩, _, by simp [resid]; rfl, ⟨rfl, rfl, rfl, rfl, rfl, rfl⟩⟩
theorem good_7 (r : RoutineState) : goodP (7, 0, 0, 0, 0, 0, r) := ⟨⟨by simp, by simp, by simp, by simp⟩, _, by simp [resid]; rfl, ⟨rfl, rfl, rfl, rfl, rfl, rfl⟩⟩
theorem betw_good {g : Nat} (h : g < 16) {x y : RoutineState} (hx : fairP x) : ∀ e ∈ betw (g : Int) x y, goodP e := by
  intro e he
  simp only [betw, List.mem_append] at he
  rcases he with ((he | he) | he) | he
  · rw [(opt_mem he).2]; exact good_2 h _ _
  · rw [(opt_mem he).2]
    have := cmn_le x.2.2.1 y.2.2.1
    have := hx.1
    exact good_3 h (by omega) _
  · rw [(opt_mem he).2]; exact good_4 h _
  · rw [(opt_mem he).2]; exact good_5 h _
theorem bt_good : ∀ (g : Nat) (xs ys : List RoutineState), g + xs.length ≤ 16 → (∀ r ∈ xs, fairP r) → ∀ e ∈ bt g xs ys, goodP e
  | g, [], _, _, _, e, he => by simp [bt] at he
  | g, _ :: _, [], _, _, e, he => by simp [bt] at he
  | g, x :: xs, y :: ys, hl, hf, e, he => by
    rw [List.length_cons] at hl
    rw [bt, List.mem_append] at he
    rcases he with he | he
    · exact betw_good (by omega) (hf x (List.mem_cons_self ..)) e he
    · exact bt_good (g + 1) xs ys (by omega) (fun r hr => hf r (List.mem_cons_of_mem _ hr)) e he
theorem list_good {a b : State} (ha : wholeP a) (hb : wholeP b) : ∀ e ∈ listS a b, goodP e := by
  intro e he
  have l1 := ha.1
  have l2 := hb.1
  simp only [listS, List.mem_append, List.mem_map] at he
  rcases he with ((he | he) | he) | ⟨r, _, rfl⟩
  · rw [(opt_mem he).2]; exact good_1 _ _ _
  · exact bt_good 0 _ _ (by omega) ha.2 e he
  · have h1 := (opt_mem he).1
    rw [(opt_mem he).2]; exact good_6 (by omega)
  · exact good_7 r

/- ## None exactly if the states are the same -/
theorem opt_no {c : Prop} {e : Edit} (h : ¬ c) : opt c e = [] := if_neg h
theorem betw_self (g : Int) (x : RoutineState) : betw g x x = [] := by
  unfold betw
  rw [opt_no (by simp), opt_no (by rw [cmn_self]; simp), opt_no (by simp), opt_no (by simp)]
  rfl
theorem bt_self : ∀ (g : Nat) (xs : List RoutineState), bt g xs xs = []
  | _, [] => by simp [bt]
  | g, x :: xs => by rw [bt, betw_self, bt_self (g + 1) xs]; rfl
theorem list_self (a : State) : listS a a = [] := by
  unfold listS
  rw [opt_no (by simp), bt_self, opt_no (by simp), List.drop_length]
  rfl
theorem list_nil {a b : State} (ha : wholeP a) (hb : wholeP b) : listS a b = [] ↔ a = b := by
  constructor
  · intro h
    have := list_run ha hb
    rw [h, runE] at this
    exact Option.some.inj this
  · rintro rfl
    exact list_self a

/- ## How many -/
theorem bt_len2 : ∀ (g : Nat) (a b : List RoutineState), (bt g a b).length ≤ 4 * b.length
  | g, [], _ => by simp [bt]
  | g, _ :: _, [] => by simp [bt]
  | g, x :: xs, y :: ys => by
    rw [bt, List.length_append, List.length_cons]
    have h1 := betw_len (g : Int) x y
    have h2 := bt_len2 (g + 1) xs ys
    omega
theorem list_len {a b : State} : ((listS a b).length : Int) ≤ 1 + 4 * min (a.2.2.2.length : Int) (b.2.2.2.length : Int) + max ((b.2.2.2.length : Int) - a.2.2.2.length) (min 1 ((a.2.2.2.length : Int) - b.2.2.2.length)) := by
  have h1 := opt_len (a.1 ≠ b.1 ∨ a.2.1 ≠ b.2.1 ∨ a.2.2.1 ≠ b.2.2.1) (1, 0, 0, b.1, b.2.1, b.2.2.1, 0, 0, [], [], [])
  have h2 := bt_len 0 a.2.2.2 b.2.2.2
  have h3 := bt_len2 0 a.2.2.2 b.2.2.2
  have h4 : (opt (b.2.2.2.length < a.2.2.2.length) (6, (b.2.2.2.length : Int), 0, 0, 0, 0, 0, 0, [], [], [])).length ≤ 1 := opt_len _ _
  have h5 : ¬ b.2.2.2.length < a.2.2.2.length → (opt (b.2.2.2.length < a.2.2.2.length) (6, (b.2.2.2.length : Int), 0, 0, 0, 0, 0, 0, [], [], [])).length = 0 := fun h => by rw [opt_no h]; rfl
  simp only [listS, List.length_append, List.length_map, List.length_drop]
  omega

/- ## The law -/
theorem check_list {a b : State} (ha : wholeP a) (hb : wholeP b) : checkS (listS a b) = 0 := by
  unfold checkS
  have := listS_len ha.1 hb.1
  rw [if_neg (by omega), if_pos (list_good ha hb)]
theorem apply_list {a b : State} (ha : wholeP a) (hb : wholeP b) : applyR a (listS a b) = (b, 0) := by
  unfold applyR
  rw [if_pos (check_list ha hb), list_run ha hb]
theorem okS_whole {s : State} (h : okS s) (hw : wholeB s = true) : wholeP s := ⟨of_decide_eq_true hw, fun r hr => okR_fair (h.2 r hr)⟩
end Go.Proofs.Ytdefleeofgekkaa

namespace Go.Proofs.Ytdefleeofgekkaa
open Go Go.Eng Go.Sym
attribute [local instance] Classical.propDecidable

/- ## A state is like itself, also with many frames -/
def okC (r : RoutineState) : Prop := r.2.2.2.1.length ≤ 12 ∧ r.2.2.2.2.length ≤ 20 ∧ (∀ f ∈ r.2.2.1, okFr f) ∧ (∀ d ∈ r.2.2.2.1, okDe d) ∧ ∀ p ∈ r.2.2.2.2, okPa p
theorem okR_C {r : RoutineState} (h : okR r) : okC r := ⟨h.2.1, h.2.2.1, h.2.2.2.1, h.2.2.2.2.1, h.2.2.2.2.2⟩
section
variable (p0 p1 : Int) (p2 : List FrameState) (p3 : List DeferState) (p4 : List PanicState) (p5 p6 : Int) (p7 : List FrameState) (p8 : List DeferState) (p9 : List PanicState)
theorem l23a2 (N : Nat) (hN : 1000 ≤ N) (h : ∀ x ∈ p2, okFr x) (hb : p2.length ≤ 170) (hl : p2.length = p7.length) : f23.L0_6 N N (0, p0, p1, p2, p3, p4, p5, p6, p7, p8, p9) = some (if p2 = p7 then .inr (p0, p1, p2, p3, p4, p5, p6, p7, p8, p9) else .inl false) :=
  loop_eq (Lf := fun k i => f23.L0_6 N k (i, p0, p1, p2, p3, p4, p5, p6, p7, p8, p9)) hl (fun k => by simp only [f23.L0_6_succ, ge_dec, cond_false]) (fun k i x y hx hy hi hj => by
    have hi' := (List.getElem?_eq_some_iff.1 hi).1
    simp only [f23.L0_6_succ, lt_dec hi', cond_true, idx_get hi, idx_get hj, Option.bind_some, f20_ok N hN x y (h x hx), wi64_succ (show i < 9223372036854775807 by omega)]
    by_cases hxy : x = y <;> simp [Bool.cond_eq_ite, hxy]) N (by omega)
end
theorem f23_self (N : Nat) (hN : 1000 ≤ N) (r : RoutineState) (hc : okC r) (hf : fairP r) : F23 N (r.1, r.2.1, r.2.2.1, r.2.2.2.1, r.2.2.2.2, r.1, r.2.1, r.2.2.1, r.2.2.2.1, r.2.2.2.2) = some true := by
  obtain ⟨p0, p1, p2, p3, p4⟩ := r
  obtain ⟨b2, b3, o1, o2, o3⟩ := hc
  have b1 : p2.length ≤ 170 := hf.1
  simp only at b2 b3 o1 o2 o3
  rw [F23_eq, f48_ok N hN p4 p4 o3 b3, Option.bind_some]
  simp only [bne_self_eq_false, cond_false, decide_true, Bool.not_true]
  rw [l23a2 _ _ _ _ _ _ _ _ _ _ N hN o1 b1 rfl, Option.bind_some, if_pos rfl]
  simp only
  rw [l23b _ _ _ _ _ _ _ _ _ _ N hN o2 b2 rfl, Option.bind_some, if_pos rfl]
theorem f19_self (N : Nat) (hN : 1000 ≤ N) (s : State) (hc : ∀ r ∈ s.2.2.2, okC r) (hw : wholeP s) : F19 N (s.1, s.2.1, s.2.2.1, s.2.2.2, s.1, s.2.1, s.2.2.1, s.2.2.2) = some true := by
  obtain ⟨p0, p1, p2, p3⟩ := s
  have hb : p3.length ≤ 16 := hw.1
  have hf : ∀ r ∈ p3, fairP r := hw.2
  simp only at hc
  have key := loop_up (n := p3.length) (Lf := fun k i => f19.L0_6 N k (i, p0, p1, p2, p3, p0, p1, p2, p3)) (g := fun _ => some (.inr ())) (fun k => by simp only [f19.L0_6_succ, ge_dec, cond_false]) (fun k i hi ih => by
    have hm := List.getElem_mem hi
    simp only [f19.L0_6_succ, lt_dec hi, cond_true, idx_get (List.getElem?_eq_getElem hi), Option.bind_some, wi64_succ (show i < 9223372036854775807 by omega)]
    rw [f23_self N hN p3[i] (hc _ hm) (hf _ hm), Option.bind_some, Bool.not_true, cond_false]
    exact ih) N 0 (by omega) (by omega)
  rw [show ((0 : Nat) : Int) = 0 from rfl] at key
  rw [F19_eq]
  simp only [bne_self_eq_false, cond_false, key, Option.bind_some]

/- ## What an edit leaves is small in its parts -/
theorem okC_set {rs : List RoutineState} {i : Nat} {y : RoutineState} (h : ∀ r ∈ rs, okC r) (hy : okC y) : ∀ r ∈ rs.set i y, okC r := fun r hr => by
  rcases List.mem_or_eq_of_mem_set hr with hr | rfl
  · exact h r hr
  · exact hy
theorem stepS_C {s t : State} {e : Edit} (he : okE e) (hc : ∀ r ∈ s.2.2.2, okC r) (h : stepS s e = some t) : ∀ r ∈ t.2.2.2, okC r := by
  have hr := okR_C he
  unfold stepS at h
  split at h
  · injection h with h; subst h; exact hc
  · split at h
    · rw [(chkW_whole h).1]
      intro r hm
      rcases List.mem_append.1 hm with hm | hm
      · exact hc r hm
      · rw [List.mem_singleton.1 hm]; exact hr
    · split at h
      · cases h
      · rename_i x hx
        have hxc := hc x (List.mem_of_getElem? hx)
        obtain ⟨c1, c2, c3, c4, c5⟩ := hxc
        obtain ⟨d1, d2, d3, d4, d5⟩ := hr
        split at h
        · rw [(chkW_whole h).1]; exact okC_set hc ⟨c1, c2, c3, c4, c5⟩
        · split at h
          · split at h
            · cases h
            · rw [(chkW_whole h).1]
              refine okC_set hc ⟨c1, c2, fun f hf => ?_, c4, c5⟩
              rcases List.mem_append.1 hf with hf | hf
              · exact d3 f hf
              · exact c3 f (List.mem_of_mem_drop hf)
          · split at h
            · rw [(chkW_whole h).1]; exact okC_set hc ⟨d1, c2, c3, d4, c5⟩
            · split at h
              · rw [(chkW_whole h).1]; exact okC_set hc ⟨c1, d2, c3, c4, d5⟩
              · split at h
                · rw [(chkW_whole h).1]; exact fun r hm => hc r (List.mem_of_mem_take hm)
                · rw [(chkW_whole h).1]; exact hc
theorem runE_C : ∀ {l : List Edit} {s t : State}, (∀ e ∈ l, okE e) → (∀ r ∈ s.2.2.2, okC r) → wholeP s → runE s l = some t → (∀ r ∈ t.2.2.2, okC r) ∧ wholeP t
  | [], s, t, _, hc, hw, h => by
    injection h with h; subst h; exact ⟨hc, hw⟩
  | e :: l, s, t, he, hc, hw, h => by
    rw [runE] at h
    cases hs : stepS s e with
    | none => rw [hs] at h; cases h
    | some s' =>
      rw [hs, Option.bind_some] at h
      exact runE_C (fun e he' => he e (List.mem_cons_of_mem _ he')) (stepS_C (he e (List.mem_cons_self ..)) hc hs) (stepS_whole hw hs) h
theorem applyR_C {s : State} {l : List Edit} (he : ∀ e ∈ l, okE e) (hs : okS s) (hw : wholeP s) : (∀ r ∈ (applyR s l).1.2.2.2, okC r) ∧ wholeP (applyR s l).1 := by
  have z : (∀ r ∈ ((0, 0, 0, []) : State).2.2.2, okC r) ∧ wholeP ((0, 0, 0, []) : State) := ⟨by simp, by simp [wholeP]⟩
  unfold applyR
  split
  · split
    · rename_i t ht
      exact runE_C he (fun r hr => okR_C (hs.2 r hr)) hw ht
    · exact z
  · exact z

/- ## Edits that are not great -/
theorem f17_ok (N : Nat) (hN : 1000 ≤ N) (l : List Edit) (hl : l.length ≤ 10) : ∃ b, F17 N l = some b ∧ (b = false → ∀ e ∈ l, okE e) := by
  rw [F17_eq]
  rcases loop_find (l := l) (n := l.length) (a := (.inr l : Bool ⊕ List Edit)) (b := .inl true) (P := okE) (Lf := fun k i => f17.L0_3 N k (l, i)) (Nat.le_refl _)
    (fun k => by simp only [f17.L0_3_succ, ge_dec, cond_false]) (fun k i x hi _ hx => by
      obtain ⟨b, h1, h2⟩ := f24_ok N hN x.2.2.2.2.2.2
      simp only [f17.L0_3_succ, lt_dec hi, cond_true, decide_eq_true (show (i : Int) ≤ 110 by omega), idx_get hx, Option.bind_some, wi64_succ (show i < 9223372036854775807 by omega)]
      have h1 : F24 N (x.2.2.2.2.2.2.1, x.2.2.2.2.2.2.2.1, x.2.2.2.2.2.2.2.2.1, x.2.2.2.2.2.2.2.2.2.1, x.2.2.2.2.2.2.2.2.2.2) = some b := h1
      rw [h1]
      cases b with
      | true => exact .inl rfl
      | false => exact .inr ⟨h2 rfl, rfl⟩) N (by omega) with h | ⟨h, h2⟩
  · rw [h]; exact ⟨true, rfl, fun h => by cases h⟩
  · rw [h, Option.bind_some]
    simp only [decide_eq_false (show ¬ (l.length : Int) > 30 by omega), cond_false]
    exact ⟨_, rfl, fun _ => all_of_get (l := l) (n := l.length) (Nat.le_refl _) h2⟩

/- ## The law -/
theorem check_app {x y : List Edit} (hx : ∀ e ∈ x, goodP e) (hl : x.length + y.length ≤ 100) : checkS (x ++ y) = checkS y := by
  unfold checkS
  rw [if_neg (show ¬ (x ++ y).length > 100 by simp; omega), if_neg (show ¬ y.length > 100 by omega)]
  by_cases h : ∀ e ∈ y, goodP e
  · rw [if_pos h, if_pos fun e he => (List.mem_append.1 he).elim (hx e) (h e)]
  · rw [if_neg h, if_neg fun q => h fun e he => q e (List.mem_append_right _ he)]
theorem apply_app {a c : State} {x y : List Edit} (hx : ∀ e ∈ x, goodP e) (hl : x.length + y.length ≤ 100) (hr : runE a x = some c) : applyR a (x ++ y) = applyR c y := by
  unfold applyR
  rw [check_app hx hl, runE_append, hr, Option.bind_some]
end Go.Proofs.Ytdefleeofgekkaa

namespace Go.Proofs.Ytdefleeofgekkaa
open Go Go.Eng Go.Sym
attribute [local instance] Classical.propDecidable

/- ## Whole numbers in order -/
theorem insI_le (x : Int) : ∀ l : List Int, (∀ y ∈ l, x ≤ y) → insI x l = x :: l
  | [], _ => rfl
  | y :: r, h => by
    unfold insI
    rw [decide_eq_true (h y (List.mem_cons_self ..))]
theorem sortI_rep (g : Int) (l : List Int) (h : ∀ y ∈ l, g ≤ y) (hs : sortI l = l) : ∀ n, sortI (List.replicate n g ++ l) = List.replicate n g ++ l
  | 0 => by simpa using hs
  | n + 1 => by
    rw [List.replicate_succ, List.cons_append, sortI, sortI_rep g l h hs n, insI_le]
    intro y hy
    rcases List.mem_append.1 hy with hy | hy
    · rw [(List.mem_replicate.1 hy).2]; exact Int.le_refl _
    · exact h y hy
theorem compI_cons (x : Int) (l : List Int) (h : ∀ y ∈ l, x < y) : compI (x :: l) = x :: compI l := by
  cases l with
  | nil => rfl
  | cons y r =>
    show (match decide (x = y) with | true => compI (y :: r) | false => x :: compI (y :: r)) = _
    rw [decide_eq_false (by have := h y (List.mem_cons_self ..); omega)]
theorem compI_two (x : Int) (l : List Int) : compI (x :: x :: l) = compI (x :: l) := by
  rw [compI]
  simp only [decide_true]
theorem compI_rep (g : Int) (l : List Int) (h : ∀ y ∈ l, g < y) : ∀ n, compI (List.replicate (n + 1) g ++ l) = g :: compI l
  | 0 => compI_cons g l h
  | n + 1 => by
    have ih := compI_rep g l h n
    rw [List.replicate_succ, List.cons_append] at ih ⊢
    rw [List.replicate_succ, List.cons_append, compI_two]
    exact ih

/- ## What is touched -/
def outG : List Edit → List Int
  | [] => []
  | e :: l => if 2 ≤ e.1 ∧ e.1 ≤ 5 then e.2.1 :: outG l else outG l
theorem outG_append : ∀ l m : List Edit, outG (l ++ m) = outG l ++ outG m
  | [], m => rfl
  | e :: l, m => by
    rw [List.cons_append, outG, outG, outG_append l m]
    split <;> rfl
theorem outG_none : ∀ l : List Edit, (∀ e ∈ l, ¬ (2 ≤ e.1 ∧ e.1 ≤ 5)) → outG l = []
  | [], _ => rfl
  | e :: l, h => by
    rw [outG, if_neg (h e (List.mem_cons_self ..)), outG_none l fun e he => h e (List.mem_cons_of_mem _ he)]
theorem outG_all (g : Int) : ∀ l : List Edit, (∀ e ∈ l, (2 ≤ e.1 ∧ e.1 ≤ 5) ∧ e.2.1 = g) → outG l = List.replicate l.length g
  | [], _ => rfl
  | e :: l, h => by
    have h1 := h e (List.mem_cons_self ..)
    rw [outG, if_pos h1.1, outG_all g l fun e he => h e (List.mem_cons_of_mem _ he), h1.2]
    rfl
theorem betw_kind (g : Int) (x y : RoutineState) : ∀ e ∈ betw g x y, (2 ≤ e.1 ∧ e.1 ≤ 5) ∧ e.2.1 = g := by
  intro e he
  simp only [betw, List.mem_append] at he
  rcases he with ((he | he) | he) | he <;> (rw [(opt_mem he).2]; simp)
theorem betw_nil {g : Nat} {x y : RoutineState} (hx : fairP x) (hy : fairP y) (h : betw (g : Int) x y = []) : x = y := by
  have hw : wholeP (0, 0, 0, List.replicate 0 x ++ x :: []) := ⟨by simp, by simp [hx]⟩
  have h0 : betw ((List.replicate 0 x).length : Int) x y = [] := by
    -- the number of the goroutine says nothing of whether there are edits
    have hl : (betw ((List.replicate 0 x).length : Int) x y).length = (betw (g : Int) x y).length := by
      simp only [betw, List.length_append, opt]
      congr 1
      · congr 1
        · congr 1
          · split <;> rfl
          · split <;> rfl
        · split <;> rfl
      · split <;> rfl
    rw [h] at hl
    exact List.eq_nil_of_length_eq_zero hl
  have := betw_run hw hy
  rw [h0, runE] at this
  injection this with this
  injection this with _ this
  injection this with _ this
  injection this with _ this
  simpa using this
/-- the numbers of those that differ -/
noncomputable def tch : Nat → List RoutineState → List RoutineState → List Int
  | g, x :: xs, y :: ys => if x = y then tch (g + 1) xs ys else (g : Int) :: tch (g + 1) xs ys
  | _, _, _ => []
theorem tch_le : ∀ (g : Nat) (xs ys : List RoutineState), ∀ z ∈ tch g xs ys, (g : Int) ≤ z
  | g, [], _, z, h => by simp [tch] at h
  | g, _ :: _, [], z, h => by simp [tch] at h
  | g, x :: xs, y :: ys, z, h => by
    rw [tch] at h
    split at h
    · have := tch_le (g + 1) xs ys z h; omega
    · rcases List.mem_cons.1 h with rfl | h
      · omega
      · have := tch_le (g + 1) xs ys z h; omega
theorem bt_out : ∀ (g : Nat) (xs ys : List RoutineState), (∀ r ∈ xs, fairP r) → (∀ r ∈ ys, fairP r) →
    (∀ z ∈ outG (bt g xs ys), (g : Int) ≤ z) ∧ sortI (outG (bt g xs ys)) = outG (bt g xs ys) ∧ compI (outG (bt g xs ys)) = tch g xs ys
  | g, [], _, _, _ => by simp [bt, outG, sortI, compI, tch]
  | g, _ :: _, [], _, _ => by simp [bt, outG, sortI, compI, tch]
  | g, x :: xs, y :: ys, hx, hy => by
    obtain ⟨h1, h2, h3⟩ := bt_out (g + 1) xs ys (fun r hr => hx r (List.mem_cons_of_mem _ hr)) fun r hr => hy r (List.mem_cons_of_mem _ hr)
    have hf := hx x (List.mem_cons_self ..)
    have hf' := hy y (List.mem_cons_self ..)
    rw [bt, outG_append, outG_all (g : Int) _ (betw_kind (g : Int) x y)]
    have hlt : ∀ z ∈ outG (bt (g + 1) xs ys), (g : Int) < z := fun z hz => by have := h1 z hz; omega
    refine ⟨fun z hz => ?_, sortI_rep _ _ (fun z hz => Int.le_of_lt (hlt z hz)) h2 _, ?_⟩
    · rcases List.mem_append.1 hz with hz | hz
      · rw [(List.mem_replicate.1 hz).2]; exact Int.le_refl _
      · exact Int.le_of_lt (hlt z hz)
    · rw [tch]
      by_cases h : x = y
      · subst h
        rw [if_pos rfl, betw_self]
        simpa using h3
      · rw [if_neg h]
        cases hb : betw (g : Int) x y with
        | nil => exact absurd (betw_nil hf hf' hb) h
        | cons e l => rw [List.length_cons, compI_rep _ _ hlt, h3]
theorem list_out {a b : State} (ha : wholeP a) (hb : wholeP b) : compI (sortI (outG (listS a b))) = tch 0 a.2.2.2 b.2.2.2 := by
  obtain ⟨_, h2, h3⟩ := bt_out 0 a.2.2.2 b.2.2.2 ha.2 hb.2
  have e : outG (listS a b) = outG (bt 0 a.2.2.2 b.2.2.2) := by
    unfold listS
    rw [outG_append, outG_append, outG_append, outG_none (opt _ _) (fun e he => by rw [(opt_mem he).2]; simp), outG_none (opt _ _) (fun e he => by rw [(opt_mem he).2]; simp), outG_none (List.map _ _) (fun e he => by
      obtain ⟨r, _, rfl⟩ := List.mem_map.1 he
      simp)]
    simp
  rw [e, h2, h3]

/- ## The functions -/
theorem sortI_len : ∀ l : List Int, (sortI l).length = l.length := sortI_length
theorem outG_len : ∀ l : List Edit, (outG l).length ≤ l.length
  | [] => Nat.le_refl _
  | e :: l => by
    rw [outG]
    have := outG_len l
    split <;> simp <;> omega
theorem loop22 (N : Nat) (l : List Edit) (hl : l.length ≤ 100) : ∀ (k i : Nat) (acc : List Int), i ≤ l.length → l.length - i < k → acc.length ≤ i → f22.L0_8 N k (l, (l.length : Int), (i : Int), acc) = some (acc ++ outG (l.drop i))
  | 0, i, acc, _, h2, _ => by omega
  | k + 1, i, acc, h1, h2, h3 => by
    by_cases hi : i < l.length
    · have hd : l.drop i = l[i] :: l.drop (i + 1) := List.drop_eq_getElem_cons hi
      rw [f22.L0_8_succ, lt_dec hi, cond_true, idx_get (List.getElem?_eq_getElem hi), Option.bind_some, hd, outG, wi64_succ (by omega)]
      by_cases g1 : l[i].1 ≥ 2
      · rw [decide_eq_true g1, cond_true]
        by_cases g2 : l[i].1 ≤ 5
        · rw [decide_eq_true g2, cond_true, chk_of (room_of (by omega) (by omega)), loop22 N l hl k (i + 1) _ hi (by omega) (by simp; omega), if_pos ⟨g1, g2⟩]
          simp
        · rw [decide_eq_false g2, cond_false, loop22 N l hl k (i + 1) _ hi (by omega) (by omega), if_neg fun h => g2 h.2]
      · rw [decide_eq_false g1, cond_false, loop22 N l hl k (i + 1) _ hi (by omega) (by omega), if_neg fun h => g1 h.1]
    · have : i = l.length := by omega
      subst this
      rw [f22.L0_8_succ, ge_dec, cond_false, List.drop_length]
      simp [outG]
theorem f22_ok (N : Nat) (hN : 1000 ≤ N) (l : List Edit) (he : ∀ e ∈ l, okE e) (hc : checkS l = 0) : F22 N l = some (compI (sortI (outG l)), 0) := by
  have hlen : l.length ≤ 100 := by
    unfold checkS at hc
    split at hc
    · cases hc
    · omega
  have hl := loop22 N l hlen N 0 [] (by omega) (by omega) (by simp)
  have hol := outG_len l
  rw [F22_eq, f41_ok N hN l he, Option.bind_some, hc, show ((0 : Int) != 0) = false from rfl, cond_false]
  rw [show ((0 : Nat) : Int) = 0 from rfl, List.drop_zero, List.nil_append] at hl
  rw [hl, Option.bind_some, chk_of (decide_eq_true (by omega)), chk_of (decide_eq_true (by rw [sortI_len]; omega))]

theorem tch_len : ∀ (g : Nat) (xs ys : List RoutineState), (tch g xs ys).length ≤ xs.length
  | g, [], _ => by simp [tch]
  | g, _ :: _, [] => by simp [tch]
  | g, x :: xs, y :: ys => by
    rw [tch]
    have := tch_len (g + 1) xs ys
    split <;> simp <;> omega
end Go.Proofs.Ytdefleeofgekkaa

