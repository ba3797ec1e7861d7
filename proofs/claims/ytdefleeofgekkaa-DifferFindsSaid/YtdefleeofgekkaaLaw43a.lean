/- The differences of states: values. -/
import Derived.Test.YtdefleeofgekkaaGen43f
import Derived.Test.YtdefleeofgekkaaPlain
import Derived.Test.YtdefleeofgekkaaSymO
namespace Go.Proofs.Ytdefleeofgekkaa
open Go Go.Eng Go.Sym
open Classical

/-- what is not great: so deep at most, lists and texts of fair length -/
def okV : Nat → Val → Prop
  | 0, _ => False
  | d + 1, v => v.text.length ≤ 100 ∧ v.list.length ≤ 400 ∧ ∀ w ∈ v.list, okV d w

theorem f78_ok : ∀ (N d : Nat) (v : Val), 500 + d ≤ N → d ≤ 100 → F78 N (v.kind, v.int, v.text, v.list, v.cut, (d : Int)) = some (!decide (okV d v))
  | 0, d, v, h, _ => by omega
  | N + 1, 0, v, h, _ => by
    rw [F78_eq, decide_eq_false (show ¬ okV 0 v from fun h => h)]
    rfl
  | N + 1, d + 1, v, h, hd => by
    rw [F78_eq]
    have e0 : (((d + 1 : Nat) : Int) == 0) = false := by simp; omega
    rw [e0, cond_false]
    by_cases h1 : (v.text.length : Int) > 100
    · rw [decide_eq_true h1, cond_true]
      have : ¬ okV (d + 1) v := fun h => by have := h.1; omega
      simp [this]
    · rw [decide_eq_false h1, cond_false]
      by_cases h2 : (v.list.length : Int) > 400
      · rw [decide_eq_true h2, cond_true]
        have : ¬ okV (d + 1) v := fun h => by have := h.2.1; omega
        simp [this]
      · rw [decide_eq_false h2, cond_false]
        have key := loop_any (l := v.list) (a := (.inr () : Bool ⊕ Unit)) (b := .inl true) (p := fun w => !decide (okV d w)) (Lf := fun k i => f78.L0_6 N (F78 N) k (((d + 1 : Nat) : Int), i, v.kind, v.int, v.text, v.list, v.cut))
          (fun k => by simp only [f78.L0_6_succ, ge_dec, cond_false]) (fun k i x hx hi => by
            have hi' := (List.getElem?_eq_some_iff.1 hi).1
            have e1 : wi64 (((d + 1 : Nat) : Int) - 1) = (d : Int) := by rw [wi64_in (by omega)]; omega
            simp only [f78.L0_6_succ, lt_dec hi', cond_true, idx_get hi, Option.bind_some, e1, f78_ok N d x (by omega) (by omega), wi64_succ (show i < 9223372036854775807 by omega)]
            cases decide (okV d x) <;> rfl) N (by omega)
        rw [key, Option.bind_some]
        by_cases h3 : ∀ w ∈ v.list, okV d w
        · have : okV (d + 1) v := ⟨by omega, by omega, h3⟩
          have h4 : v.list.any (fun w => !decide (okV d w)) = false := by rw [List.any_eq_false]; intro w hw; simp [h3 w hw]
          simp [this, h4]
        · have : ¬ okV (d + 1) v := fun h => h3 h.2.2
          have h4 : v.list.any (fun w => !decide (okV d w)) = true := by
            rw [List.any_eq_true]
            simp only [not_forall] at h3
            obtain ⟨w, hw, h3⟩ := h3
            exact ⟨w, hw, by simp [h3]⟩
          simp [this, h4]

theorem f79_tot : ∀ (N d : Nat) (v : Val), 500 + d ≤ N → okV d v → ∃ n, F79 N (v.kind, v.int, v.text, v.list, v.cut) = some n
  | 0, d, v, h, _ => by omega
  | N + 1, 0, v, _, h => h.elim
  | N + 1, d + 1, v, h, hv => by
    rw [F79_eq]
    have key := loop_st (n := v.list.length) (I := fun _ _ => True) (Lf := fun k i (s : Int) => (f79.L0_4 N (F79 N) k (s, i, v.kind, v.int, v.text, v.list, v.cut)).map fun _ => ()) (g := fun _ _ => some ())
      (fun k s _ => by simp only [f79.L0_4_succ, ge_dec, cond_false, Option.map_some]) (fun k i s hi _ ih => by
        simp only [f79.L0_4_succ, lt_dec hi, cond_true]
        by_cases h1 : s ≤ 5000
        · obtain ⟨n, hn⟩ := f79_tot N d v.list[i] (by omega) (hv.2.2 _ (List.getElem_mem hi))
          have := hv.2.1
          simp only [decide_eq_true h1, cond_true, idx_get (List.getElem?_eq_getElem hi), Option.bind_some, hn, wi64_succ (show i < 9223372036854775807 by omega), ih _ trivial]
        · simp only [decide_eq_false h1, cond_false, Option.map_some]) N 0 1 trivial (by omega) (by have := hv.2.1; omega)
    simp only [Int.ofNat_zero] at key
    cases hq : f79.L0_4 N (F79 N) N (1, 0, v.kind, v.int, v.text, v.list, v.cut) with
    | none => rw [hq] at key; cases key
    | some n => exact ⟨n, rfl⟩

/-- great, or not: then it is small -/
theorem f52_ok (N : Nat) (hN : 600 ≤ N) (v : Val) : ∃ b, F52 N (v.kind, v.int, v.text, v.list, v.cut) = some b ∧ (b = false → okV 14 v) := by
  rw [F52_eq]
  have h1 := f78_ok N 14 v (by omega) (by omega)
  have e : ((14 : Nat) : Int) = 14 := rfl
  rw [e] at h1
  rw [h1, Option.bind_some]
  by_cases h : okV 14 v
  · obtain ⟨n, hn⟩ := f79_tot N 14 v (by omega) h
    simp only [h, decide_true, Bool.not_true, cond_false, hn, Option.bind_some]
    exact ⟨_, rfl, fun _ => trivial⟩
  · simp only [h, decide_false, Bool.not_false, cond_true]
    exact ⟨true, rfl, fun h => by cases h⟩

theorem val_ext {v w : Val} : v = w ↔ v.kind = w.kind ∧ v.int = w.int ∧ v.text = w.text ∧ v.cut = w.cut ∧ v.list = w.list := by
  cases v; cases w
  simp only [Val.mk.injEq, Val.kind, Val.int, Val.text, Val.cut, Val.list]
  exact ⟨fun ⟨a, b, c, d, e⟩ => ⟨a, b, c, e, d⟩, fun ⟨a, b, c, d, e⟩ => ⟨a, b, c, e, d⟩⟩

theorem f83_ok : ∀ (N d : Nat) (v w : Val), 500 + d ≤ N → okV d v → F83 N (v.kind, v.int, v.text, v.list, v.cut, w.kind, w.int, w.text, w.list, w.cut) = some (decide (v = w))
  | 0, d, v, w, h, _ => by omega
  | N + 1, 0, v, w, _, h => h.elim
  | N + 1, d + 1, v, w, h, hv => by
    rw [F83_eq]
    simp only [val_ext (v := v) (w := w)]
    by_cases h1 : v.kind = w.kind
    · by_cases h2 : v.int = w.int
      · by_cases h3 : v.text = w.text
        · by_cases h4 : v.cut = w.cut
          · simp only [h1, h2, h3, h4, beq_self_eq_true, cond_true, true_and]
            by_cases h5 : v.list.length = w.list.length
            · have e : ((v.list.length : Int) != (w.list.length : Int)) = false := by simp [h5]
              rw [e, cond_false]
              have hb := hv.2.1
              have key := loop_eq (l := v.list) (m := w.list) (a := (.inr () : Bool ⊕ Unit)) (b := .inl false) (Lf := fun k i => f83.L1036000_6 N (F83 N) k (w.list, v.list, (v.list.length : Int), i)) h5
                (fun k => by simp only [f83.L1036000_6_succ, ge_dec, cond_false]) (fun k i x y hx hy hi hj => by
                  have hi' := (List.getElem?_eq_some_iff.1 hi).1
                  simp only [f83.L1036000_6_succ, lt_dec hi', cond_true, idx_get hi, idx_get hj, Option.bind_some, f83_ok N d x y (by omega) (hv.2.2 x hx), wi64_succ (show i < 9223372036854775807 by omega)]
                  by_cases hxy : x = y <;> simp [hxy]) N (by omega)
              rw [key, Option.bind_some]
              by_cases h6 : v.list = w.list <;> simp [h6]
            · have e : ((v.list.length : Int) != (w.list.length : Int)) = true := by simp; omega
              rw [e, cond_true]
              have : ¬ v.list = w.list := fun h => h5 (by rw [h])
              simp [this]
          · simp [h1, h2, h3, h4, Bool.cond_eq_ite]
        · simp [h1, h2, h3, Bool.cond_eq_ite]
      · simp [h1, h2, Bool.cond_eq_ite]
    · simp [h1, Bool.cond_eq_ite]
theorem f49_ok : ∀ (N d : Nat) (v w : Val), 500 + d ≤ N → okV d v → F49 N (v.kind, v.int, v.text, v.list, v.cut, w.kind, w.int, w.text, w.list, w.cut) = some (decide (v = w))
  | 0, d, v, w, h, _ => by omega
  | N + 1, 0, v, w, _, h => h.elim
  | N + 1, d + 1, v, w, h, hv => by
    rw [F49_eq]
    simp only [val_ext (v := v) (w := w)]
    by_cases h1 : v.kind = w.kind
    · by_cases h2 : v.int = w.int
      · by_cases h3 : v.text = w.text
        · by_cases h4 : v.cut = w.cut
          · simp only [h1, h2, h3, h4, beq_self_eq_true, Bool.not_true, bne_self_eq_false, cond_false, true_and]
            by_cases h5 : v.list.length = w.list.length
            · have e : ((v.list.length : Int) != (w.list.length : Int)) = false := by simp [h5]
              rw [e, cond_false]
              have hb := hv.2.1
              have key := loop_eq (l := v.list) (m := w.list) (a := (.inr () : Bool ⊕ Unit)) (b := .inl false) (Lf := fun k i => f49.L0_6 N (F49 N) k (i, w.kind, w.int, w.text, v.list, w.cut, w.kind, w.int, w.text, w.list, w.cut)) h5
                (fun k => by simp only [f49.L0_6_succ, ge_dec, cond_false]) (fun k i x y hx hy hi hj => by
                  have hi' := (List.getElem?_eq_some_iff.1 hi).1
                  simp only [f49.L0_6_succ, lt_dec hi', cond_true, idx_get hi, idx_get hj, Option.bind_some, f49_ok N d x y (by omega) (hv.2.2 x hx), wi64_succ (show i < 9223372036854775807 by omega)]
                  by_cases hxy : x = y <;> simp [hxy]) N (by omega)
              rw [key, Option.bind_some]
              by_cases h6 : v.list = w.list <;> simp [h6]
            · have e : ((v.list.length : Int) != (w.list.length : Int)) = true := by simp; omega
              rw [e, cond_true]
              have : ¬ v.list = w.list := fun h => h5 (by rw [h])
              simp [this]
          · simp [h1, h2, h3, h4, Bool.cond_eq_ite]
        · simp [h1, h2, h3, Bool.cond_eq_ite]
      · simp [h1, h2, Bool.cond_eq_ite]
    · simp [h1, Bool.cond_eq_ite]
theorem f68_ok : ∀ (N d : Nat) (v : Val), 500 + d ≤ N → okV d v → F68 N (v.kind, v.int, v.text, v.list, v.cut) = some (v.kind, v.int, v.text, v.list, v.cut)
  | 0, d, v, h, _ => by omega
  | N + 1, 0, v, _, h => h.elim
  | N + 1, d + 1, v, h, hv => by
    have hb := hv.2.1
    rw [F68_eq, chk_of (room_of (by omega) (by omega))]
    have key := loop_up (n := v.list.length) (Lf := fun k i => f68.L0_4 N (F68 N) k ((v.list.length : Int), i, v.kind, v.int, v.text, v.cut, v.list, 0, 0, [], false)) (g := fun _ => some (v.kind, v.int, v.text, v.cut, v.list, 0, 0, [], false))
      (fun k => by simp only [f68.L0_4_succ, ge_dec, cond_false]) (fun k i hi ih => by
        have hi' := List.getElem?_eq_getElem hi
        have ex : Val.mk v.list[i].kind v.list[i].int v.list[i].text v.list[i].list v.list[i].cut = v.list[i] := by cases v.list[i]; rfl
        simp only [f68.L0_4_succ, lt_dec hi, cond_true, chk_of (inR_lt hi), Int.toNat_natCast, hi', Option.bind_some, f68_ok N d v.list[i] (by omega) (hv.2.2 _ (List.getElem_mem hi)), wi64_succ (show i < 9223372036854775807 by omega), ex, set_self hi']
        exact ih) N 0 (by omega) (by omega)
    simp only [Int.natCast_zero] at key
    rw [key, Option.bind_some]
end Go.Proofs.Ytdefleeofgekkaa
