/- The differences of states: what is the same, copies. -/
import Derived.Test.YtdefleeofgekkaaLaw43b
namespace Go.Proofs.Ytdefleeofgekkaa
open Go Go.Eng Go.Sym
open Classical

theorem f82_ok (N : Nat) (hN : 1000 ≤ N) (x y : Local) (h : okV 14 x.2) : F82 N (x.1, x.2.kind, x.2.int, x.2.text, x.2.list, x.2.cut, y.1, y.2.kind, y.2.int, y.2.text, y.2.list, y.2.cut) = some (decide (x = y)) := by
  rw [F82_eq, f83_ok N 14 x.2 y.2 (by omega) h]
  by_cases h1 : x.1 = y.1 <;> simp [Bool.cond_eq_ite, h1, Prod.ext_iff]
theorem l59 (N : Nat) (hN : 1000 ≤ N) (l m : List Local) (h : ∀ x ∈ l, okV 14 x.2) (hb : l.length ≤ 20) (hl : l.length = m.length) : f59.L1029000_6 N N (m, l, (l.length : Int), 0) = some (if l = m then .inr () else .inl false) :=
  loop_eq (Lf := fun k i => f59.L1029000_6 N k (m, l, (l.length : Int), i)) hl (fun k => by simp only [f59.L1029000_6_succ, ge_dec, cond_false]) (fun k i x y hx hy hi hj => by
    have hi' := (List.getElem?_eq_some_iff.1 hi).1
    simp only [f59.L1029000_6_succ, lt_dec hi', cond_true, idx_get hi, idx_get hj, Option.bind_some, f82_ok N hN x y (h x hx), wi64_succ (show i < 9223372036854775807 by omega)]
    by_cases hxy : x = y <;> simp [Bool.cond_eq_ite, hxy]) N (by omega)
theorem len_ne {α : Type} {l m : List α} : ((l.length : Int) != (m.length : Int)) = !decide (l.length = m.length) := by
  by_cases h : l.length = m.length
  · simp [Bool.cond_eq_ite, h]
  · have : ¬ (l.length : Int) = (m.length : Int) := by omega
    simp [Bool.cond_eq_ite, h, this]
theorem ne_len {α : Type} {l m : List α} (h : ¬ l.length = m.length) : ¬ l = m := fun e => h (by rw [e])
theorem f59_ok (N : Nat) (hN : 1000 ≤ N) (a b : FrameState) (h : okFr a) : F59 N (a.1, a.2.1, a.2.2.1, a.2.2.2, b.1, b.2.1, b.2.2.1, b.2.2.2) = some (decide (a = b)) := by
  rw [F59_eq, len_ne]
  by_cases h1 : a.1 = b.1
  · by_cases h2 : a.2.1 = b.2.1
    · by_cases h3 : a.2.2.1 = b.2.2.1
      · by_cases h4 : a.2.2.2.length = b.2.2.2.length
        · have key := l59 N hN _ _ h.2 h.1 h4
          simp only [h1, h2, h3, h4, beq_self_eq_true, cond_true, decide_true, Bool.not_true, cond_false]
          rw [h4] at key
          rw [key, Option.bind_some]
          by_cases h5 : a.2.2.2 = b.2.2.2 <;> simp [Bool.cond_eq_ite, h1, h2, h3, h5, Prod.ext_iff]
        · simp [Bool.cond_eq_ite, h1, h2, h3, h4, ne_len h4, Prod.ext_iff]
      · simp [Bool.cond_eq_ite, h1, h2, h3, Prod.ext_iff]
    · simp [Bool.cond_eq_ite, h1, h2, Prod.ext_iff]
  · simp [Bool.cond_eq_ite, h1, Prod.ext_iff]
theorem l44 (N : Nat) (hN : 1000 ≤ N) (l m : List Local) (h : ∀ x ∈ l, okV 14 x.2) (hb : l.length ≤ 20) (hl : l.length = m.length) : f44.L0_6 N N (l, m, 0) = some (if l = m then .inr () else .inl false) :=
  loop_eq (Lf := fun k i => f44.L0_6 N k (l, m, i)) hl (fun k => by simp only [f44.L0_6_succ, ge_dec, cond_false]) (fun k i x y hx hy hi hj => by
    have hi' := (List.getElem?_eq_some_iff.1 hi).1
    simp only [f44.L0_6_succ, lt_dec hi', cond_true, idx_get hi, idx_get hj, Option.bind_some, f49_ok N 14 x.2 y.2 (by omega) (h x hx), wi64_succ (show i < 9223372036854775807 by omega)]
    by_cases h1 : x.1 = y.1 <;> by_cases h2 : x.2 = y.2 <;> simp [Bool.cond_eq_ite, h1, h2, Prod.ext_iff]) N (by omega)
theorem f20_ok (N : Nat) (hN : 1000 ≤ N) (a b : FrameState) (h : okFr a) : F20 N (a.1, a.2.1, a.2.2.1, a.2.2.2, b.1, b.2.1, b.2.2.1, b.2.2.2) = some (decide (a = b)) := by
  have e : F44 N (a.2.2.2, b.2.2.2) = some (decide (a.2.2.2 = b.2.2.2)) := by
    rw [F44_eq, len_ne]
    by_cases h4 : a.2.2.2.length = b.2.2.2.length
    · simp only [h4, decide_true, Bool.not_true, cond_false, l44 N hN _ _ h.2 h.1 h4, Option.bind_some]
      by_cases h5 : a.2.2.2 = b.2.2.2 <;> simp [Bool.cond_eq_ite, h5]
    · simp [Bool.cond_eq_ite, h4, ne_len h4]
  rw [F20_eq, e]
  by_cases h1 : a.1 = b.1
  · by_cases h2 : a.2.1 = b.2.1
    · by_cases h3 : a.2.2.1 = b.2.2.1 <;> simp [Bool.cond_eq_ite, h1, h2, h3, Prod.ext_iff]
    · simp [Bool.cond_eq_ite, h1, h2, Prod.ext_iff]
  · simp [Bool.cond_eq_ite, h1, Prod.ext_iff]
theorem f61_ok (N : Nat) (hN : 1000 ≤ N) (a b : DeferState) (h : okDe a) : F61 N (a.1, a.2.1, a.2.2.1, a.2.2.2.kind, a.2.2.2.int, a.2.2.2.text, a.2.2.2.list, a.2.2.2.cut, b.1, b.2.1, b.2.2.1, b.2.2.2.kind, b.2.2.2.int, b.2.2.2.text, b.2.2.2.list, b.2.2.2.cut) = some (decide (a = b)) := by
  rw [F61_eq, f83_ok N 14 a.2.2.2 b.2.2.2 (by omega) h]
  by_cases h1 : a.1 = b.1
  · by_cases h2 : a.2.1 = b.2.1
    · by_cases h3 : a.2.2.1 = b.2.2.1 <;> simp [Bool.cond_eq_ite, h1, h2, h3, Prod.ext_iff]
    · simp [Bool.cond_eq_ite, h1, h2, Prod.ext_iff]
  · simp [Bool.cond_eq_ite, h1, Prod.ext_iff]
theorem f63_ok (N : Nat) (hN : 1000 ≤ N) (a b : PanicState) (h : okPa a) : F63 N (a.1, a.2.1.kind, a.2.1.int, a.2.1.text, a.2.1.list, a.2.1.cut, a.2.2, b.1, b.2.1.kind, b.2.1.int, b.2.1.text, b.2.1.list, b.2.1.cut, b.2.2) = some (decide (a = b)) := by
  rw [F63_eq, f83_ok N 14 a.2.1 b.2.1 (by omega) h]
  by_cases h1 : a.1 = b.1
  · by_cases h2 : a.2.2 = b.2.2 <;> simp [Bool.cond_eq_ite, h1, h2, Prod.ext_iff]
  · simp [Bool.cond_eq_ite, h1, Prod.ext_iff]
theorem f77_ok (N : Nat) (hN : 1000 ≤ N) (a b : PanicState) (h : okPa a) : F77 N (a.1, a.2.1.kind, a.2.1.int, a.2.1.text, a.2.1.list, a.2.1.cut, a.2.2, b.1, b.2.1.kind, b.2.1.int, b.2.1.text, b.2.1.list, b.2.1.cut, b.2.2) = some (decide (a = b)) := by
  rw [F77_eq, f49_ok N 14 a.2.1 b.2.1 (by omega) h]
  by_cases h1 : a.1 = b.1
  · by_cases h2 : a.2.2 = b.2.2 <;> simp [Bool.cond_eq_ite, h1, h2, Prod.ext_iff]
  · simp [Bool.cond_eq_ite, h1, Prod.ext_iff]
theorem f48_ok (N : Nat) (hN : 1000 ≤ N) (l m : List PanicState) (h : ∀ x ∈ l, okPa x) (hb : l.length ≤ 20) : F48 N (l, m) = some (decide (l = m)) := by
  rw [F48_eq, len_ne]
  by_cases hl : l.length = m.length
  · have key := loop_eq (l := l) (m := m) (a := (.inr () : Bool ⊕ Unit)) (b := .inl false) (Lf := fun k i => f48.L0_6 N k (l, m, i)) hl (fun k => by simp only [f48.L0_6_succ, ge_dec, cond_false]) (fun k i x y hx hy hi hj => by
      have hi' := (List.getElem?_eq_some_iff.1 hi).1
      simp only [f48.L0_6_succ, lt_dec hi', cond_true, idx_get hi, idx_get hj, Option.bind_some, f77_ok N hN x y (h x hx), wi64_succ (show i < 9223372036854775807 by omega)]
      by_cases hxy : x = y <;> simp [Bool.cond_eq_ite, hxy]) N (by omega)
    simp only [hl, decide_true, Bool.not_true, cond_false, key, Option.bind_some]
    by_cases h5 : l = m <;> simp [Bool.cond_eq_ite, h5]
  · simp [Bool.cond_eq_ite, hl, ne_len hl]

section
variable (p0 p1 : Int) (p2 : List FrameState) (p3 : List DeferState) (p4 : List PanicState) (p5 p6 : Int) (p7 : List FrameState) (p8 : List DeferState) (p9 : List PanicState)
theorem l23a (N : Nat) (hN : 1000 ≤ N) (h : ∀ x ∈ p2, okFr x) (hb : p2.length ≤ 12) (hl : p2.length = p7.length) : f23.L0_6 N N (0, p0, p1, p2, p3, p4, p5, p6, p7, p8, p9) = some (if p2 = p7 then .inr (p0, p1, p2, p3, p4, p5, p6, p7, p8, p9) else .inl false) :=
  loop_eq (Lf := fun k i => f23.L0_6 N k (i, p0, p1, p2, p3, p4, p5, p6, p7, p8, p9)) hl (fun k => by simp only [f23.L0_6_succ, ge_dec, cond_false]) (fun k i x y hx hy hi hj => by
    have hi' := (List.getElem?_eq_some_iff.1 hi).1
    simp only [f23.L0_6_succ, lt_dec hi', cond_true, idx_get hi, idx_get hj, Option.bind_some, f20_ok N hN x y (h x hx), wi64_succ (show i < 9223372036854775807 by omega)]
    by_cases hxy : x = y <;> simp [Bool.cond_eq_ite, hxy]) N (by omega)
theorem l23b (N : Nat) (hN : 1000 ≤ N) (h : ∀ x ∈ p3, okDe x) (hb : p3.length ≤ 12) (hl : p3.length = p8.length) : f23.L0_16 N N (0, p0, p1, p2, p3, p4, p5, p6, p7, p8, p9) = some (if p3 = p8 then .inr () else .inl false) :=
  loop_eq (Lf := fun k i => f23.L0_16 N k (i, p0, p1, p2, p3, p4, p5, p6, p7, p8, p9)) hl (fun k => by simp only [f23.L0_16_succ, ge_dec, cond_false]) (fun k i x y hx hy hi hj => by
    have hi' := (List.getElem?_eq_some_iff.1 hi).1
    simp only [f23.L0_16_succ, lt_dec hi', cond_true, idx_get hi, idx_get hj, Option.bind_some, f49_ok N 14 x.2.2.2 y.2.2.2 (by omega) (h x hx), wi64_succ (show i < 9223372036854775807 by omega)]
    by_cases h1 : x.1 = y.1
    · by_cases h2 : x.2.1 = y.2.1
      · by_cases h3 : x.2.2.1 = y.2.2.1
        · by_cases h4 : x.2.2.2 = y.2.2.2 <;> simp [Bool.cond_eq_ite, h1, h2, h3, h4, Prod.ext_iff]
        · simp [Bool.cond_eq_ite, h1, h2, h3, Prod.ext_iff]
      · simp [Bool.cond_eq_ite, h1, h2, Prod.ext_iff]
    · simp [Bool.cond_eq_ite, h1, Prod.ext_iff]) N (by omega)
theorem f23_ok (N : Nat) (hN : 1000 ≤ N) (h : okR (p0, p1, p2, p3, p4)) : F23 N (p0, p1, p2, p3, p4, p5, p6, p7, p8, p9) = some (decide (((p0, p1, p2, p3, p4) : RoutineState) = (p5, p6, p7, p8, p9))) := by
  obtain ⟨b1, b2, b3, o1, o2, o3⟩ := h
  simp only at b1 b2 b3 o1 o2 o3
  rw [F23_eq, len_ne, len_ne, f48_ok N hN p4 p9 o3 b3, Option.bind_some]
  by_cases h1 : p0 = p5
  · by_cases h2 : p1 = p6
    · by_cases h3 : p2.length = p7.length
      · by_cases h4 : p3.length = p8.length
        · by_cases h5 : p4 = p9
          · simp only [h1, h2, h3, h4, h5, bne_self_eq_false, cond_false, decide_true, Bool.not_true]
            rw [l23a _ _ _ _ _ _ _ _ _ _ N hN o1 b1 h3, Option.bind_some]
            by_cases h6 : p2 = p7
            · simp only [h6, if_true]
              rw [l23b _ _ _ _ _ _ _ _ _ _ N hN o2 b2 h4, Option.bind_some]
              by_cases h7 : p3 = p8 <;> simp [Bool.cond_eq_ite, h7]
            · simp [Bool.cond_eq_ite, h6]
          · simp [Bool.cond_eq_ite, h1, h2, h3, h4, h5]
        · simp [Bool.cond_eq_ite, h1, h2, h3, h4, ne_len h4]
      · simp [Bool.cond_eq_ite, h1, h2, h3, ne_len h3]
    · simp [Bool.cond_eq_ite, h1, h2]
  · simp [Bool.cond_eq_ite, h1]
theorem l37a (N : Nat) (hN : 1000 ≤ N) (h : ∀ x ∈ p2, okFr x) (hb : p2.length ≤ 12) (hl : p2.length = p7.length) : f37.L1022000_6 N N (p7, p2, (p2.length : Int), 0, p0, p1, p2, p3, p4, p5, p6, p7, p8, p9) = some (if p2 = p7 then .inr (p0, p1, p2, p3, p4, p5, p6, p7, p8, p9) else .inl (false, p0, p1, p2, p3, p4, p5, p6, p7, p8, p9)) :=
  loop_eq (Lf := fun k i => f37.L1022000_6 N k (p7, p2, (p2.length : Int), i, p0, p1, p2, p3, p4, p5, p6, p7, p8, p9)) hl (fun k => by simp only [f37.L1022000_6_succ, ge_dec, cond_false]) (fun k i x y hx hy hi hj => by
    have hi' := (List.getElem?_eq_some_iff.1 hi).1
    simp only [f37.L1022000_6_succ, lt_dec hi', cond_true, idx_get hi, idx_get hj, Option.bind_some, f59_ok N hN x y (h x hx), wi64_succ (show i < 9223372036854775807 by omega)]
    by_cases hxy : x = y <;> simp [Bool.cond_eq_ite, hxy]) N (by omega)
theorem l37b (N : Nat) (hN : 1000 ≤ N) (h : ∀ x ∈ p3, okDe x) (hb : p3.length ≤ 12) (hl : p3.length = p8.length) : f37.L1029000_6 N N (p8, p3, (p3.length : Int), 0, p0, p1, p2, p3, p4, p5, p6, p7, p8, p9) = some (if p3 = p8 then .inr (p0, p1, p2, p3, p4, p5, p6, p7, p8, p9) else .inl (false, p0, p1, p2, p3, p4, p5, p6, p7, p8, p9)) :=
  loop_eq (Lf := fun k i => f37.L1029000_6 N k (p8, p3, (p3.length : Int), i, p0, p1, p2, p3, p4, p5, p6, p7, p8, p9)) hl (fun k => by simp only [f37.L1029000_6_succ, ge_dec, cond_false]) (fun k i x y hx hy hi hj => by
    have hi' := (List.getElem?_eq_some_iff.1 hi).1
    simp only [f37.L1029000_6_succ, lt_dec hi', cond_true, idx_get hi, idx_get hj, Option.bind_some, f61_ok N hN x y (h x hx), wi64_succ (show i < 9223372036854775807 by omega)]
    by_cases hxy : x = y <;> simp [Bool.cond_eq_ite, hxy]) N (by omega)
theorem l37c (N : Nat) (hN : 1000 ≤ N) (h : ∀ x ∈ p4, okPa x) (hb : p4.length ≤ 20) (hl : p4.length = p9.length) : f37.L1036000_6 N N (p9, p4, (p4.length : Int), 0) = some (if p4 = p9 then .inr () else .inl false) :=
  loop_eq (Lf := fun k i => f37.L1036000_6 N k (p9, p4, (p4.length : Int), i)) hl (fun k => by simp only [f37.L1036000_6_succ, ge_dec, cond_false]) (fun k i x y hx hy hi hj => by
    have hi' := (List.getElem?_eq_some_iff.1 hi).1
    simp only [f37.L1036000_6_succ, lt_dec hi', cond_true, idx_get hi, idx_get hj, Option.bind_some, f63_ok N hN x y (h x hx), wi64_succ (show i < 9223372036854775807 by omega)]
    by_cases hxy : x = y <;> simp [Bool.cond_eq_ite, hxy]) N (by omega)
theorem f37_ok (N : Nat) (hN : 1000 ≤ N) (h : okR (p0, p1, p2, p3, p4)) : F37 N (p0, p1, p2, p3, p4, p5, p6, p7, p8, p9) = some (decide (((p0, p1, p2, p3, p4) : RoutineState) = (p5, p6, p7, p8, p9))) := by
  obtain ⟨b1, b2, b3, o1, o2, o3⟩ := h
  simp only at b1 b2 b3 o1 o2 o3
  rw [F37_eq, len_ne]
  by_cases h1 : p0 = p5
  · by_cases h2 : p1 = p6
    · by_cases h3 : p2.length = p7.length
      · simp only [h1, h2, h3, beq_self_eq_true, cond_true, cond_false, decide_true, Bool.not_true]
        have k1 := l37a p5 p6 p2 p3 p4 p5 p6 p7 p8 p9 N hN o1 b1 h3
        rw [h3] at k1
        rw [k1, Option.bind_some]
        by_cases h6 : p2 = p7
        · simp only [h6, if_true, len_ne]
          by_cases h4 : p3.length = p8.length
          · have k2 := l37b p5 p6 p7 p3 p4 p5 p6 p7 p8 p9 N hN o2 b2 h4
            simp only [h4, decide_true, Bool.not_true, cond_false]
            rw [h4] at k2
            rw [k2, Option.bind_some]
            by_cases h7 : p3 = p8
            · simp only [h7, if_true, len_ne]
              by_cases h5 : p4.length = p9.length
              · have k3 := l37c p4 p9 N hN o3 b3 h5
                simp only [h5, decide_true, Bool.not_true, cond_false]
                rw [h5] at k3
                rw [k3, Option.bind_some]
                by_cases h8 : p4 = p9 <;> simp [Bool.cond_eq_ite, h8]
              · simp [Bool.cond_eq_ite, h5, ne_len h5]
            · simp [Bool.cond_eq_ite, h7]
          · simp [Bool.cond_eq_ite, h4, ne_len h4]
        · simp [Bool.cond_eq_ite, h6]
      · simp [Bool.cond_eq_ite, h1, h2, h3, ne_len h3]
    · simp [Bool.cond_eq_ite, h1, h2]
  · simp [Bool.cond_eq_ite, h1]
end

/- ## Copies -/
theorem l33a (N : Nat) (hN : 1000 ≤ N) (l : List Local) (h : ∀ x ∈ l, okV 14 x.2) (hb : l.length ≤ 20) (v10 v11 v12 v15 v16 : Int) (v17 : List FrameState) (v18 : List DeferState) (v19 : List PanicState) (v20 v21 : Int) :
    f33.L0_12 N N (v10, v11, v12, (l.length : Int), 0, v15, v16, v17, v18, v19, v20, v21, l) = some (v10, v11, v12, v15, v16, v17, v18, v19, v20, v21, l) := by
  have key := loop_up (n := l.length) (Lf := fun k i => f33.L0_12 N k (v10, v11, v12, (l.length : Int), i, v15, v16, v17, v18, v19, v20, v21, l)) (g := fun _ => some (v10, v11, v12, v15, v16, v17, v18, v19, v20, v21, l))
    (fun k => by simp only [f33.L0_12_succ, ge_dec, cond_false]) (fun k i hi ih => by
      have hi' := List.getElem?_eq_getElem hi
      have ex : Val.mk l[i].2.kind l[i].2.int l[i].2.text l[i].2.list l[i].2.cut = l[i].2 := by cases l[i].2; rfl
      simp only [f33.L0_12_succ, lt_dec hi, cond_true, chk_of (inR_lt hi), Int.toNat_natCast, hi', Option.bind_some, f68_ok N 14 l[i].2 (by omega) (h _ (List.getElem_mem hi)), wi64_succ (show i < 9223372036854775807 by omega), ex, set_self hi']
      exact ih) N 0 (by omega) (by omega)
  simpa using key
section
variable (v2 v3 : Int) (v4 : List FrameState) (v5 : List DeferState) (v6 : List PanicState) (v7 v8 : Int)
theorem l33b (N : Nat) (hN : 1000 ≤ N) (h : ∀ x ∈ v4, okFr x) (hb : v4.length ≤ 12) : f33.L0_4 N N ((v4.length : Int), 0, v2, v3, v4, v5, v6, v7, v8) = some (v2, v3, v4, v5, v6, v7, v8) := by
  have key := loop_up (n := v4.length) (Lf := fun k i => f33.L0_4 N k ((v4.length : Int), i, v2, v3, v4, v5, v6, v7, v8)) (g := fun _ => some (v2, v3, v4, v5, v6, v7, v8))
    (fun k => by simp only [f33.L0_4_succ, ge_dec, cond_false]) (fun k i hi ih => by
      have hi' := List.getElem?_eq_getElem hi
      obtain ⟨g1, g2⟩ := h _ (List.getElem_mem hi)
      simp only [f33.L0_4_succ, lt_dec hi, cond_true, chk_of (inR_lt hi), Int.toNat_natCast, hi', Option.bind_some, chk_of (room_of (show v4[i].2.2.2.length ≤ 9223372036854775807 by omega) (show v4[i].2.2.2.length * 72 ≤ 140737488355328 by omega)), l33a N hN _ g2 g1, wi64_succ (show i < 9223372036854775807 by omega), set_self hi']
      exact ih) N 0 (by omega) (by omega)
  simpa using key
theorem l33c (N : Nat) (hN : 1000 ≤ N) (h : ∀ x ∈ v5, okDe x) (hb : v5.length ≤ 12) : f33.L0_23 N N ((v5.length : Int), 0, v2, v3, v4, v5, v6, v7, v8) = some (v2, v3, v4, v5, v6, v7, v8) := by
  have key := loop_up (n := v5.length) (Lf := fun k i => f33.L0_23 N k ((v5.length : Int), i, v2, v3, v4, v5, v6, v7, v8)) (g := fun _ => some (v2, v3, v4, v5, v6, v7, v8))
    (fun k => by simp only [f33.L0_23_succ, ge_dec, cond_false]) (fun k i hi ih => by
      have hi' := List.getElem?_eq_getElem hi
      have ex : Val.mk v5[i].2.2.2.kind v5[i].2.2.2.int v5[i].2.2.2.text v5[i].2.2.2.list v5[i].2.2.2.cut = v5[i].2.2.2 := by cases v5[i].2.2.2; rfl
      simp only [f33.L0_23_succ, lt_dec hi, cond_true, chk_of (inR_lt hi), Int.toNat_natCast, hi', Option.bind_some, f68_ok N 14 v5[i].2.2.2 (by omega) (h _ (List.getElem_mem hi)), wi64_succ (show i < 9223372036854775807 by omega), ex, set_self hi']
      exact ih) N 0 (by omega) (by omega)
  simpa using key
theorem l33d (N : Nat) (hN : 1000 ≤ N) (h : ∀ x ∈ v6, okPa x) (hb : v6.length ≤ 20) : f33.L0_32 N N ((v6.length : Int), 0, v2, v3, v4, v5, v6, v7, v8) = some (v2, v3, v4, v5, v6, v7, v8) := by
  have key := loop_up (n := v6.length) (Lf := fun k i => f33.L0_32 N k ((v6.length : Int), i, v2, v3, v4, v5, v6, v7, v8)) (g := fun _ => some (v2, v3, v4, v5, v6, v7, v8))
    (fun k => by simp only [f33.L0_32_succ, ge_dec, cond_false]) (fun k i hi ih => by
      have hi' := List.getElem?_eq_getElem hi
      have ex : Val.mk v6[i].2.1.kind v6[i].2.1.int v6[i].2.1.text v6[i].2.1.list v6[i].2.1.cut = v6[i].2.1 := by cases v6[i].2.1; rfl
      simp only [f33.L0_32_succ, lt_dec hi, cond_true, chk_of (inR_lt hi), Int.toNat_natCast, hi', Option.bind_some, f68_ok N 14 v6[i].2.1 (by omega) (h _ (List.getElem_mem hi)), wi64_succ (show i < 9223372036854775807 by omega), ex, set_self hi']
      exact ih) N 0 (by omega) (by omega)
  simpa using key
end
theorem f33_ok (N : Nat) (hN : 1000 ≤ N) (p0 p1 : Int) (p2 : List FrameState) (p3 : List DeferState) (p4 : List PanicState) (h : okR (p0, p1, p2, p3, p4)) : F33 N (p0, p1, p2, p3, p4) = some (p0, p1, p2, p3, p4) := by
  obtain ⟨b1, b2, b3, o1, o2, o3⟩ := h
  simp only at b1 b2 b3 o1 o2 o3
  rw [F33_eq, chk_of (room_of (by omega) (by omega)), chk_of (room_of (by omega) (by omega)), chk_of (room_of (by omega) (by omega)), l33b p0 p1 p2 p3 p4 0 0 N hN o1 b1, Option.bind_some]
  simp only
  rw [l33c p0 p1 p2 p3 p4 0 0 N hN o2 b2, Option.bind_some]
  simp only
  rw [l33d p0 p1 p2 p3 p4 0 0 N hN o3 b3, Option.bind_some]
end Go.Proofs.Ytdefleeofgekkaa
