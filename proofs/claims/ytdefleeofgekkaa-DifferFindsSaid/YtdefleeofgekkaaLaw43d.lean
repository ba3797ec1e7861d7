/- The differences of states: the edits between two states. -/
import Derived.Test.YtdefleeofgekkaaLaw43c
namespace Go.Proofs.Ytdefleeofgekkaa
open Go Go.Eng Go.Sym
open Classical

/- ## What two lists have in common at their ends -/
noncomputable def csr : List FrameState → List FrameState → Nat
  | x :: xs, y :: ys => if x = y then csr xs ys + 1 else 0
  | _, _ => 0
theorem csr_le : ∀ a b : List FrameState, csr a b ≤ a.length ∧ csr a b ≤ b.length
  | x :: xs, y :: ys => by
    simp only [csr]
    split
    · have := csr_le xs ys
      simp; omega
    · simp
  | [], _ => by simp [csr]
  | _ :: _, [] => by simp [csr]
theorem csr_get : ∀ (a b : List FrameState) (i : Nat), i < csr a b → a[i]? = b[i]?
  | x :: xs, y :: ys, i, h => by
    simp only [csr] at h
    split at h
    · rename_i e
      cases i with
      | zero => simp [e]
      | succ i => simpa using csr_get xs ys i (by omega)
    · omega
  | [], _, i, h => by simp [csr] at h
  | _ :: _, [], i, h => by simp [csr] at h
theorem csr_ne : ∀ (a b : List FrameState), csr a b < a.length → csr a b < b.length → a[csr a b]? ≠ b[csr a b]?
  | x :: xs, y :: ys, h1, h2 => by
    simp only [csr] at h1 h2 ⊢
    split
    · rename_i e
      rw [if_pos e] at h1 h2
      simpa using csr_ne xs ys (by simpa using h1) (by simpa using h2)
    · rename_i e
      simpa using e
  | [], _, h, _ => by simp [csr] at h
  | _ :: _, [], _, h => by simp [csr] at h
noncomputable def cmn (a b : List FrameState) : Nat := csr a.reverse b.reverse
theorem cmn_le (a b : List FrameState) : cmn a b ≤ a.length ∧ cmn a b ≤ b.length := by simpa [cmn] using csr_le a.reverse b.reverse
theorem rev_get {α : Type} {l : List α} {i : Nat} (h : i < l.length) : l.reverse[i]? = l[l.length - 1 - i]? := List.getElem?_reverse h
theorem cmn_get {a b : List FrameState} {i : Nat} (h : i < cmn a b) : a[a.length - 1 - i]? = b[b.length - 1 - i]? := by
  have h1 := cmn_le a b
  have := csr_get _ _ i h
  rwa [rev_get (by omega), rev_get (by omega)] at this
theorem cmn_ne {a b : List FrameState} (h1 : cmn a b < a.length) (h2 : cmn a b < b.length) : a[a.length - 1 - cmn a b]? ≠ b[b.length - 1 - cmn a b]? := by
  have := csr_ne a.reverse b.reverse (by simpa [cmn] using h1) (by simpa [cmn] using h2)
  rwa [← cmn, rev_get h1, rev_get h2] at this

theorem f69_ok (N : Nat) (hN : 1000 ≤ N) (a b : List FrameState) (h : ∀ f ∈ a, okFr f) (ha : a.length ≤ 12) (hb : b.length ≤ 12) : F69 N (a, b) = some (cmn a b : Int) := by
  rw [F69_eq]
  have hc := cmn_le a b
  have key := loop_up (n := cmn a b) (Lf := fun k i => f69.L0_3 N k (a, b, i)) (g := fun _ => some (cmn a b : Int))
    (fun k => by
      simp only [f69.L0_3_succ]
      by_cases h1 : cmn a b < a.length
      · rw [lt_dec h1, cond_true]
        by_cases h2 : cmn a b < b.length
        · rw [lt_dec h2, cond_true]
          have e1 : wi64 (wi64 ((a.length : Int) - 1) - (cmn a b : Int)) = ((a.length - 1 - cmn a b : Nat) : Int) := by rw [wi64_in (n := (a.length : Int) - 1) (by omega), wi64_in (by omega)]; omega
          have e2 : wi64 (wi64 ((b.length : Int) - 1) - (cmn a b : Int)) = ((b.length - 1 - cmn a b : Nat) : Int) := by rw [wi64_in (n := (b.length : Int) - 1) (by omega), wi64_in (by omega)]; omega
          have g1 := List.getElem?_eq_getElem (l := a) (i := a.length - 1 - cmn a b) (by omega)
          have g2 := List.getElem?_eq_getElem (l := b) (i := b.length - 1 - cmn a b) (by omega)
          have hne := cmn_ne h1 h2
          rw [g1, g2] at hne
          rw [e1, e2, idx_get g1, idx_get g2, Option.bind_some, Option.bind_some, f20_ok N hN _ _ (h _ (List.getElem_mem _)), Option.bind_some]
          have : decide (a[a.length - 1 - cmn a b] = b[b.length - 1 - cmn a b]) = false := decide_eq_false fun e => hne (by rw [e])
          rw [this, cond_false]
        · rw [decide_eq_false (show ¬ (cmn a b : Int) < b.length by omega), cond_false]
      · rw [decide_eq_false (show ¬ (cmn a b : Int) < a.length by omega), cond_false])
    (fun k i hi ih => by
      have e1 : wi64 (wi64 ((a.length : Int) - 1) - (i : Int)) = ((a.length - 1 - i : Nat) : Int) := by rw [wi64_in (n := (a.length : Int) - 1) (by omega), wi64_in (by omega)]; omega
      have e2 : wi64 (wi64 ((b.length : Int) - 1) - (i : Int)) = ((b.length - 1 - i : Nat) : Int) := by rw [wi64_in (n := (b.length : Int) - 1) (by omega), wi64_in (by omega)]; omega
      have g1 := List.getElem?_eq_getElem (l := a) (i := a.length - 1 - i) (by omega)
      have g2 := List.getElem?_eq_getElem (l := b) (i := b.length - 1 - i) (by omega)
      have heq := cmn_get hi
      rw [g1, g2] at heq
      injection heq with heq
      simp only [f69.L0_3_succ, lt_dec (show i < a.length by omega), lt_dec (show i < b.length by omega), cond_true, e1, e2, idx_get g1, idx_get g2, Option.bind_some]
      rw [f20_ok N hN _ _ (h _ (List.getElem_mem _)), Option.bind_some, decide_eq_true heq, cond_true, wi64_succ (show i < 9223372036854775807 by omega)]
      exact ih) N 0 (by omega) (by omega)
  simp only [Int.ofNat_zero] at key
  rw [key, Option.bind_some]

theorem l32a (N : Nat) (hN : 1000 ≤ N) (v5 v6 : Int) (a : List FrameState) (v8 : List DeferState) (v9 : List PanicState) (v10 v11 : Int) (b : List FrameState) (v13 : List DeferState) (v14 : List PanicState) (v15 : List Edit) (v16 : Int)
    (h : ∀ f ∈ a, okFr f) (ha : a.length ≤ 12) (hb : b.length ≤ 12) :
    f32.L0_8 N N ((a.length : Int), (b.length : Int), v5, v6, a, v8, v9, v10, v11, b, v13, v14, v15, v16) = some (((a.length - cmn a b : Nat) : Int), ((b.length - cmn a b : Nat) : Int), v5, v6, a, v8, v9, v10, v11, b, v13, v14, v15, v16) := by
  have hc := cmn_le a b
  have key := loop_up (n := cmn a b) (Lf := fun k i => f32.L0_8 N k ((a.length : Int) - i, (b.length : Int) - i, v5, v6, a, v8, v9, v10, v11, b, v13, v14, v15, v16)) (g := fun _ => some (((a.length - cmn a b : Nat) : Int), ((b.length - cmn a b : Nat) : Int), v5, v6, a, v8, v9, v10, v11, b, v13, v14, v15, v16))
    (fun k => by
      have q1 : (a.length : Int) - (cmn a b : Int) = ((a.length - cmn a b : Nat) : Int) := by omega
      have q2 : (b.length : Int) - (cmn a b : Int) = ((b.length - cmn a b : Nat) : Int) := by omega
      simp only [f32.L0_8_succ, q1, q2]
      by_cases h1 : cmn a b < a.length
      · rw [decide_eq_true (show ((a.length - cmn a b : Nat) : Int) > 0 by omega), cond_true]
        by_cases h2 : cmn a b < b.length
        · rw [decide_eq_true (show ((b.length - cmn a b : Nat) : Int) > 0 by omega), cond_true]
          have e1 : wi64 (((a.length - cmn a b : Nat) : Int) - 1) = ((a.length - 1 - cmn a b : Nat) : Int) := by rw [wi64_in (by omega)]; omega
          have e2 : wi64 (((b.length - cmn a b : Nat) : Int) - 1) = ((b.length - 1 - cmn a b : Nat) : Int) := by rw [wi64_in (by omega)]; omega
          have g1 := List.getElem?_eq_getElem (l := a) (i := a.length - 1 - cmn a b) (by omega)
          have g2 := List.getElem?_eq_getElem (l := b) (i := b.length - 1 - cmn a b) (by omega)
          have hne := cmn_ne h1 h2
          rw [g1, g2] at hne
          rw [e1, e2, idx_get g1, idx_get g2, Option.bind_some, Option.bind_some, f59_ok N hN _ _ (h _ (List.getElem_mem _)), Option.bind_some]
          have : decide (a[a.length - 1 - cmn a b] = b[b.length - 1 - cmn a b]) = false := decide_eq_false fun e => hne (by rw [e])
          rw [this, cond_false]
        · rw [decide_eq_false (show ¬ ((b.length - cmn a b : Nat) : Int) > 0 by omega), cond_false]
      · rw [decide_eq_false (show ¬ ((a.length - cmn a b : Nat) : Int) > 0 by omega), cond_false])
    (fun k i hi ih => by
      have e1 : wi64 ((a.length : Int) - (i : Int) - 1) = ((a.length - 1 - i : Nat) : Int) := by rw [wi64_in (by omega)]; omega
      have e2 : wi64 ((b.length : Int) - (i : Int) - 1) = ((b.length - 1 - i : Nat) : Int) := by rw [wi64_in (by omega)]; omega
      have g1 := List.getElem?_eq_getElem (l := a) (i := a.length - 1 - i) (by omega)
      have g2 := List.getElem?_eq_getElem (l := b) (i := b.length - 1 - i) (by omega)
      have heq := cmn_get hi
      rw [g1, g2] at heq
      injection heq with heq
      have q1 : ((a.length - 1 - i : Nat) : Int) = (a.length : Int) - ((i + 1 : Nat) : Int) := by omega
      have q2 : ((b.length - 1 - i : Nat) : Int) = (b.length : Int) - ((i + 1 : Nat) : Int) := by omega
      simp only [f32.L0_8_succ]
      rw [decide_eq_true (show (a.length : Int) - (i : Int) > 0 by omega), cond_true, decide_eq_true (show (b.length : Int) - (i : Int) > 0 by omega), cond_true, e1, e2, idx_get g1, idx_get g2, Option.bind_some, Option.bind_some, f59_ok N hN _ _ (h _ (List.getElem_mem _)), Option.bind_some, decide_eq_true heq, cond_true, q1, q2]
      exact ih) N 0 (by omega) (by omega)
  simpa using key
section
variable (v3 v4 : Int) (v5 : List FrameState) (v6 : List DeferState) (v7 : List PanicState) (v8 v9 : Int) (v10 : List FrameState) (v11 : List DeferState) (v12 : List PanicState) (v13 : List Edit) (v14 : Int)
theorem l32b (N : Nat) (hN : 1000 ≤ N) (l m : List DeferState) (h : ∀ x ∈ l, okDe x) (hb : l.length ≤ 12) (hl : l.length = m.length) :
    f32.L1084000_6 N N (m, l, (l.length : Int), 0, v3, v4, v5, v6, v7, v8, v9, v10, v11, v12, v13, v14) = some (if l = m then .inr (v3, v4, v5, v6, v7, v8, v9, v10, v11, v12, v13, v14) else .inl (false, v3, v4, v5, v6, v7, v8, v9, v10, v11, v12, v13, v14)) :=
  loop_eq (Lf := fun k i => f32.L1084000_6 N k (m, l, (l.length : Int), i, v3, v4, v5, v6, v7, v8, v9, v10, v11, v12, v13, v14)) hl (fun k => by simp only [f32.L1084000_6_succ, ge_dec, cond_false]) (fun k i x y hx hy hi hj => by
    have hi' := (List.getElem?_eq_some_iff.1 hi).1
    simp only [f32.L1084000_6_succ, lt_dec hi', cond_true, idx_get hi, idx_get hj, Option.bind_some, f61_ok N hN x y (h x hx), wi64_succ (show i < 9223372036854775807 by omega)]
    by_cases hxy : x = y <;> simp [hxy]) N (by omega)
theorem l32c (N : Nat) (hN : 1000 ≤ N) (l m : List PanicState) (h : ∀ x ∈ l, okPa x) (hb : l.length ≤ 20) (hl : l.length = m.length) :
    f32.L1095000_6 N N (m, l, (l.length : Int), 0, v8, v9, v10, v11, v12, v13, v14) = some (if l = m then .inr (v8, v9, v10, v11, v12, v13, v14) else .inl (false, v8, v9, v10, v11, v12, v13, v14)) :=
  loop_eq (Lf := fun k i => f32.L1095000_6 N k (m, l, (l.length : Int), i, v8, v9, v10, v11, v12, v13, v14)) hl (fun k => by simp only [f32.L1095000_6_succ, ge_dec, cond_false]) (fun k i x y hx hy hi hj => by
    have hi' := (List.getElem?_eq_some_iff.1 hi).1
    simp only [f32.L1095000_6_succ, lt_dec hi', cond_true, idx_get hi, idx_get hj, Option.bind_some, f63_ok N hN x y (h x hx), wi64_succ (show i < 9223372036854775807 by omega)]
    by_cases hxy : x = y <;> simp [hxy]) N (by omega)
end

/- ## Between two goroutines -/
noncomputable def opt (c : Prop) (e : Edit) : List Edit := if c then [e] else []
theorem opt_len (c : Prop) (e : Edit) : (opt c e).length ≤ 1 := by unfold opt; split <;> simp
theorem opt_mem {c : Prop} {e x : Edit} (h : x ∈ opt c e) : c ∧ x = e := by
  unfold opt at h
  split at h
  · exact ⟨by assumption, by simpa using h⟩
  · simp at h
noncomputable def betw (g : Int) (a b : RoutineState) : List Edit :=
  ((opt (a.1 ≠ b.1 ∨ a.2.1 ≠ b.2.1) (2, g, 0, 0, 0, 0, b.1, b.2.1, [], [], []) ++
  opt (cmn a.2.2.1 b.2.2.1 < a.2.2.1.length ∨ cmn a.2.2.1 b.2.2.1 < b.2.2.1.length) (3, g, (cmn a.2.2.1 b.2.2.1 : Int), 0, 0, 0, 0, 0, b.2.2.1.take (b.2.2.1.length - cmn a.2.2.1 b.2.2.1), [], [])) ++
  opt (a.2.2.2.1 ≠ b.2.2.2.1) (4, g, 0, 0, 0, 0, 0, 0, [], b.2.2.2.1, [])) ++
  opt (a.2.2.2.2 ≠ b.2.2.2.2) (5, g, 0, 0, 0, 0, 0, 0, [], [], b.2.2.2.2)
theorem betw_len (g : Int) (a b : RoutineState) : (betw g a b).length ≤ 4 := by
  simp only [betw, List.length_append]
  have h1 := opt_len (a.1 ≠ b.1 ∨ a.2.1 ≠ b.2.1) (2, g, 0, 0, 0, 0, b.1, b.2.1, [], [], [])
  have h2 := opt_len (cmn a.2.2.1 b.2.2.1 < a.2.2.1.length ∨ cmn a.2.2.1 b.2.2.1 < b.2.2.1.length) (3, g, (cmn a.2.2.1 b.2.2.1 : Int), 0, 0, 0, 0, 0, b.2.2.1.take (b.2.2.1.length - cmn a.2.2.1 b.2.2.1), [], [])
  have h3 := opt_len (a.2.2.2.1 ≠ b.2.2.2.1) (4, g, 0, 0, 0, 0, 0, 0, [], b.2.2.2.1, [])
  have h4 := opt_len (a.2.2.2.2 ≠ b.2.2.2.2) (5, g, 0, 0, 0, 0, 0, 0, [], [], b.2.2.2.2)
  omega
theorem okR_1 (a b : Int) : okR (a, b, [], [], []) := ⟨by simp, by simp, by simp, by simp, by simp, by simp⟩
theorem okR_3 {r : RoutineState} (h : okR r) (a b : Int) (k : Nat) : okR (a, b, r.2.2.1.take k, [], []) :=
  ⟨by have := h.1; simp; omega, by simp, by simp, fun f hf => h.2.2.2.1 f (List.mem_of_mem_take hf), by simp, by simp⟩
theorem okR_4 {r : RoutineState} (h : okR r) (a b : Int) : okR (a, b, [], r.2.2.2.1, []) := ⟨by simp, h.2.1, by simp, by simp, h.2.2.2.2.1, by simp⟩
theorem okR_5 {r : RoutineState} (h : okR r) (a b : Int) : okR (a, b, [], [], r.2.2.2.2) := ⟨by simp, by simp, h.2.2.1, by simp, by simp, h.2.2.2.2.2⟩
/-- what an edit has is not great -/
def okE (e : Edit) : Prop := okR e.2.2.2.2.2.2
theorem betw_ok (g : Int) (a b : RoutineState) (h : okR b) : ∀ e ∈ betw g a b, okE e := by
  intro e he
  simp only [betw, List.mem_append] at he
  rcases he with ((he | he) | he) | he
  · rw [(opt_mem he).2]; exact okR_1 _ _
  · rw [(opt_mem he).2]; exact okR_3 h _ _ _
  · rw [(opt_mem he).2]; exact okR_4 h _ _
  · rw [(opt_mem he).2]; exact okR_5 h _ _

theorem bne_dec (a b : Int) : (a != b) = decide (a ≠ b) := by by_cases h : a = b <;> simp [h]

theorem f32_ok (N : Nat) (hN : 1000 ≤ N) (g p1 p2 : Int) (p3 : List FrameState) (p4 : List DeferState) (p5 : List PanicState) (p6 p7 : Int) (p8 : List FrameState) (p9 : List DeferState) (p10 : List PanicState)
    (ha : okR (p1, p2, p3, p4, p5)) (hb : okR (p6, p7, p8, p9, p10)) : F32 N (g, p1, p2, p3, p4, p5, p6, p7, p8, p9, p10) = some (betw g (p1, p2, p3, p4, p5) (p6, p7, p8, p9, p10)) := by
  obtain ⟨a1, a2, a3, a4, a5, a6⟩ := id ha
  obtain ⟨b1, b2, b3, b4, b5, b6⟩ := id hb
  simp only at a1 a2 a3 a4 a5 a6 b1 b2 b3 b4 b5 b6
  have hc := cmn_le p3 p8
  rw [F32_eq]
  refine bindE (decide (p1 ≠ p6 ∨ p2 ≠ p7), p1, p2, p3, p4, p5, p6, p7, p8, p9, p10, g) ?_ ?_
  · by_cases h1 : p1 = p6 <;> by_cases h2 : p2 = p7 <;> simp [h1, h2, Bool.cond_eq_ite]
  simp only
  let E1 : List Edit := opt (p1 ≠ p6 ∨ p2 ≠ p7) (2, g, 0, 0, 0, 0, p6, p7, [], [], [])
  have l1 : E1.length ≤ 1 := opt_len _ _
  refine bindE (p1, p2, p3, p4, p5, p6, p7, p8, p9, p10, E1, g) ?_ ?_
  · rw [f33_ok N hN p6 p7 [] [] [] (okR_1 _ _), Option.bind_some, chk_of (room_of (by omega) (by omega))]
    simp only [E1, opt]
    by_cases h1 : p1 ≠ p6 ∨ p2 ≠ p7
    · rw [decide_eq_true h1, cond_true, if_pos h1]
    · rw [decide_eq_false h1, cond_false, if_neg h1]
  simp only
  refine bindE (((p3.length - cmn p3 p8 : Nat) : Int), ((p8.length - cmn p3 p8 : Nat) : Int), p1, p2, p3, p4, p5, p6, p7, p8, p9, p10, E1, g) ?_ ?_
  · rw [l32a N hN p1 p2 p3 p4 p5 p6 p7 p8 p9 p10 E1 g a4 a1 b1, Option.bind_some]
  simp only
  refine bindE (((p8.length - cmn p3 p8 : Nat) : Int), decide (cmn p3 p8 < p3.length ∨ cmn p3 p8 < p8.length), p1, p2, p3, p4, p5, p6, p7, p8, p9, p10, E1, g) ?_ ?_
  · by_cases h1 : cmn p3 p8 < p3.length
    · rw [decide_eq_true (show ((p3.length - cmn p3 p8 : Nat) : Int) > 0 by omega), cond_true, decide_eq_true (.inl h1)]
    · rw [decide_eq_false (show ¬ ((p3.length - cmn p3 p8 : Nat) : Int) > 0 by omega), cond_false]
      by_cases h2 : cmn p3 p8 < p8.length
      · rw [decide_eq_true (show ((p8.length - cmn p3 p8 : Nat) : Int) > 0 by omega), decide_eq_true (.inr h2)]
      · rw [decide_eq_false (show ¬ ((p8.length - cmn p3 p8 : Nat) : Int) > 0 by omega), decide_eq_false (by omega)]
  simp only
  let E2 : List Edit := E1 ++ opt (cmn p3 p8 < p3.length ∨ cmn p3 p8 < p8.length) (3, g, (cmn p3 p8 : Int), 0, 0, 0, 0, 0, p8.take (p8.length - cmn p3 p8), [], [])
  have l2 : E2.length ≤ 2 := by
    simp only [E2, List.length_append]
    have := opt_len (cmn p3 p8 < p3.length ∨ cmn p3 p8 < p8.length) (3, g, (cmn p3 p8 : Int), 0, 0, 0, 0, 0, p8.take (p8.length - cmn p3 p8), [], [])
    omega
  refine bindE (p1, p2, p3, p4, p5, p6, p7, p8, p9, p10, E2, g) ?_ ?_
  · have e1 : wi64 ((p8.length : Int) - ((p8.length - cmn p3 p8 : Nat) : Int)) = (cmn p3 p8 : Int) := by rw [wi64_in (by omega)]; omega
    rw [chk_of (decide_eq_true (show (0 : Int) ≤ ((p8.length - cmn p3 p8 : Nat) : Int) by omega)), Int.toNat_natCast, chk_of (decide_eq_true (show p8.length - cmn p3 p8 ≤ p8.length by omega)), f33_ok N hN 0 0 _ [] [] (okR_3 hb 0 0 _), Option.bind_some, chk_of (room_of (by omega) (by omega)), e1]
    simp only [E2, opt]
    by_cases h1 : cmn p3 p8 < p3.length ∨ cmn p3 p8 < p8.length
    · rw [decide_eq_true h1, cond_true, if_pos h1]
    · rw [decide_eq_false h1, cond_false, if_neg h1, List.append_nil]
  simp only
  refine bindE (decide (p4 ≠ p9), p1, p2, p3, p4, p5, p6, p7, p8, p9, p10, E2, g) ?_ ?_
  · rw [len_ne]
    by_cases h1 : p4.length = p9.length
    · rw [l32b _ _ _ _ _ _ _ _ _ _ _ _ N hN p4 p9 a5 a2 h1, Option.bind_some]
      by_cases h2 : p4 = p9 <;> simp [h1, h2]
    · simp [h1, ne_len h1]
  simp only
  let E3 : List Edit := E2 ++ opt (p4 ≠ p9) (4, g, 0, 0, 0, 0, 0, 0, [], p9, [])
  have l3 : E3.length ≤ 3 := by
    simp only [E3, List.length_append]
    have := opt_len (p4 ≠ p9) (4, g, 0, 0, 0, 0, 0, 0, [], p9, [])
    omega
  refine bindE (p1, p2, p3, p4, p5, p6, p7, p8, p9, p10, E3, g) ?_ ?_
  · rw [f33_ok N hN 0 0 [] p9 [] (okR_4 hb 0 0), Option.bind_some, chk_of (room_of (by omega) (by omega))]
    simp only [E3, opt]
    by_cases h1 : p4 ≠ p9
    · rw [decide_eq_true h1, cond_true, if_pos h1]
    · rw [decide_eq_false h1, cond_false, if_neg h1, List.append_nil]
  simp only
  refine bindE (decide (p5 ≠ p10), p6, p7, p8, p9, p10, E3, g) ?_ ?_
  · rw [len_ne]
    by_cases h1 : p5.length = p10.length
    · rw [l32c _ _ _ _ _ _ _ N hN p5 p10 a6 a3 h1, Option.bind_some]
      by_cases h2 : p5 = p10 <;> simp [h1, h2]
    · simp [h1, ne_len h1]
  simp only
  rw [f33_ok N hN 0 0 [] [] p10 (okR_5 hb 0 0), Option.bind_some, chk_of (room_of (by omega) (by omega))]
  simp only [betw, E3, E2, E1]
  by_cases h1 : p5 ≠ p10
  · rw [decide_eq_true h1, cond_true]
    rw [show opt (p5 ≠ p10) (5, g, 0, 0, 0, 0, 0, 0, [], [], p10) = [(5, g, 0, 0, 0, 0, 0, 0, [], [], p10)] from if_pos h1]
  · rw [decide_eq_false h1, cond_false]
    rw [show opt (p5 ≠ p10) (5, g, 0, 0, 0, 0, 0, 0, [], [], p10) = [] from if_neg h1, List.append_nil]

theorem f35_ok (N : Nat) (hN : 1000 ≤ N) (g p1 p2 : Int) (p3 : List FrameState) (p4 : List DeferState) (p5 : List PanicState) (p6 p7 : Int) (p8 : List FrameState) (p9 : List DeferState) (p10 : List PanicState)
    (ha : okR (p1, p2, p3, p4, p5)) (hb : okR (p6, p7, p8, p9, p10)) : F35 N (g, p1, p2, p3, p4, p5, p6, p7, p8, p9, p10) = some (betw g (p1, p2, p3, p4, p5) (p6, p7, p8, p9, p10)) := by
  obtain ⟨a1, a2, a3, a4, a5, a6⟩ := id ha
  obtain ⟨b1, b2, b3, b4, b5, b6⟩ := id hb
  simp only at a1 a2 a3 a4 a5 a6 b1 b2 b3 b4 b5 b6
  have hc := cmn_le p3 p8
  rw [F35_eq]
  refine bindE (g, decide (p1 ≠ p6 ∨ p2 ≠ p7), p1, p2, p3, p4, p5, p6, p7, p8, p9, p10) ?_ ?_
  · by_cases h1 : p1 = p6 <;> by_cases h2 : p2 = p7 <;> simp [h1, h2, Bool.cond_eq_ite]
  simp only
  let E1 : List Edit := opt (p1 ≠ p6 ∨ p2 ≠ p7) (2, g, 0, 0, 0, 0, p6, p7, [], [], [])
  have l1 : E1.length ≤ 1 := opt_len _ _
  refine bindE (g, E1, p1, p2, p3, p4, p5, p6, p7, p8, p9, p10) ?_ ?_
  · rw [chk_of (room_of (by omega) (by omega))]
    simp only [E1, opt]
    by_cases h1 : p1 ≠ p6 ∨ p2 ≠ p7
    · rw [decide_eq_true h1, cond_true, if_pos h1]
    · rw [decide_eq_false h1, cond_false, if_neg h1]
  simp only
  refine bindE (cmn p3 p8 : Int) (f69_ok N hN p3 p8 a4 a1 b1) ?_
  refine bindE (g, E1, (cmn p3 p8 : Int), decide (cmn p3 p8 < p3.length ∨ cmn p3 p8 < p8.length), p1, p2, p3, p4, p5, p6, p7, p8, p9, p10) ?_ ?_
  · by_cases h1 : cmn p3 p8 < p3.length
    · rw [decide_eq_true (show (cmn p3 p8 : Int) < p3.length by omega), cond_true, decide_eq_true (.inl h1)]
    · rw [decide_eq_false (show ¬ (cmn p3 p8 : Int) < p3.length by omega), cond_false]
      by_cases h2 : cmn p3 p8 < p8.length
      · rw [decide_eq_true (show (cmn p3 p8 : Int) < p8.length by omega), decide_eq_true (.inr h2)]
      · rw [decide_eq_false (show ¬ (cmn p3 p8 : Int) < p8.length by omega), decide_eq_false (by omega)]
  simp only
  let E2 : List Edit := E1 ++ opt (cmn p3 p8 < p3.length ∨ cmn p3 p8 < p8.length) (3, g, (cmn p3 p8 : Int), 0, 0, 0, 0, 0, p8.take (p8.length - cmn p3 p8), [], [])
  have l2 : E2.length ≤ 2 := by
    simp only [E2, List.length_append]
    have := opt_len (cmn p3 p8 < p3.length ∨ cmn p3 p8 < p8.length) (3, g, (cmn p3 p8 : Int), 0, 0, 0, 0, 0, p8.take (p8.length - cmn p3 p8), [], [])
    omega
  refine bindE (g, E2, p1, p2, p3, p4, p5, p6, p7, p8, p9, p10) ?_ ?_
  · have e1 : wi64 ((p8.length : Int) - (cmn p3 p8 : Int)) = ((p8.length - cmn p3 p8 : Nat) : Int) := by rw [wi64_in (by omega)]; omega
    rw [e1, chk_of (decide_eq_true (show (0 : Int) ≤ ((p8.length - cmn p3 p8 : Nat) : Int) by omega)), Int.toNat_natCast, chk_of (decide_eq_true (show p8.length - cmn p3 p8 ≤ p8.length by omega)), chk_of (room_of (by omega) (by omega))]
    simp only [E2, opt]
    by_cases h1 : cmn p3 p8 < p3.length ∨ cmn p3 p8 < p8.length
    · rw [decide_eq_true h1, cond_true, if_pos h1]
    · rw [decide_eq_false h1, cond_false, if_neg h1, List.append_nil]
  simp only
  refine bindE (decide (p4 = p9)) ?_ ?_
  · rw [f23_ok 0 0 [] p4 [] 0 0 [] p9 [] N hN (okR_4 ha 0 0)]
    by_cases h1 : p4 = p9 <;> simp [h1]
  let E3 : List Edit := E2 ++ opt (p4 ≠ p9) (4, g, 0, 0, 0, 0, 0, 0, [], p9, [])
  have l3 : E3.length ≤ 3 := by
    simp only [E3, List.length_append]
    have := opt_len (p4 ≠ p9) (4, g, 0, 0, 0, 0, 0, 0, [], p9, [])
    omega
  refine bindE (g, E3, p1, p2, p3, p4, p5, p6, p7, p8, p9, p10) ?_ ?_
  · rw [chk_of (room_of (by omega) (by omega))]
    simp only [E3, opt]
    by_cases h1 : p4 = p9
    · rw [decide_eq_true h1, Bool.not_true, cond_false, if_neg (by simp [h1]), List.append_nil]
    · rw [decide_eq_false h1, Bool.not_false, cond_true, if_pos h1]
  simp only
  refine bindE (decide (p5 = p10)) (f48_ok N hN p5 p10 a6 a3) ?_
  rw [chk_of (room_of (by omega) (by omega))]
  simp only [betw, E3, E2, E1]
  by_cases h1 : p5 = p10
  · rw [decide_eq_true h1, Bool.not_true, cond_false]
    rw [show opt (p5 ≠ p10) (5, g, 0, 0, 0, 0, 0, 0, [], [], p10) = [] from if_neg (by simp [h1]), List.append_nil]
  · rw [decide_eq_false h1, Bool.not_false, cond_true]
    rw [show opt (p5 ≠ p10) (5, g, 0, 0, 0, 0, 0, 0, [], [], p10) = [(5, g, 0, 0, 0, 0, 0, 0, [], [], p10)] from if_pos h1]
end Go.Proofs.Ytdefleeofgekkaa
