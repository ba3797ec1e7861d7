/- The differences of states: the program's lists and the reference's. -/
import Derived.Test.YtdefleeofgekkaaLaw43d
namespace Go.Proofs.Ytdefleeofgekkaa
open Go Go.Eng Go.Sym
open Classical

/-- between all goroutines that both have, from a number on -/
noncomputable def bt : Nat → List RoutineState → List RoutineState → List Edit
  | g, x :: xs, y :: ys => betw g x y ++ bt (g + 1) xs ys
  | _, _, _ => []
theorem bt_step {a b : List RoutineState} {i : Nat} {x y : RoutineState} (hx : a[i]? = some x) (hy : b[i]? = some y) : bt i (a.drop i) (b.drop i) = betw i x y ++ bt (i + 1) (a.drop (i + 1)) (b.drop (i + 1)) := by
  obtain ⟨h1, rfl⟩ := List.getElem?_eq_some_iff.1 hx
  obtain ⟨h2, rfl⟩ := List.getElem?_eq_some_iff.1 hy
  rw [List.drop_eq_getElem_cons h1, List.drop_eq_getElem_cons h2, bt]
theorem bt_end {a b : List RoutineState} {i : Nat} (h : a.length ≤ i ∨ b.length ≤ i) : bt i (a.drop i) (b.drop i) = [] := by
  rcases h with h | h
  · rw [List.drop_eq_nil_of_le h]; cases b.drop i <;> rfl
  · rw [List.drop_eq_nil_of_le h]; cases a.drop i <;> rfl
theorem bt_len : ∀ (g : Nat) (a b : List RoutineState), (bt g a b).length ≤ 4 * a.length
  | g, x :: xs, y :: ys => by
    rw [bt, List.length_append, List.length_cons]
    have := bt_len (g + 1) xs ys
    have := betw_len g x y
    omega
  | g, [], _ => by simp [bt]
  | g, _ :: _, [] => by simp [bt]
theorem bt_ok : ∀ (g : Nat) (a b : List RoutineState), (∀ r ∈ b, okR r) → ∀ e ∈ bt g a b, okE e
  | g, x :: xs, y :: ys, h, e, he => by
    rw [bt, List.mem_append] at he
    rcases he with he | he
    · exact betw_ok _ _ _ (h y (by simp)) e he
    · exact bt_ok (g + 1) xs ys (fun r hr => h r (by simp [hr])) e he
  | g, [], _, _, e, he => by simp [bt] at he
  | g, _ :: _, [], _, e, he => by simp [bt] at he

theorem l10a (N : Nat) (hN : 1000 ≤ N) (a b : List RoutineState) (ha : ∀ r ∈ a, okR r) (hb : ∀ r ∈ b, okR r) (l1 : a.length ≤ 16) (l2 : b.length ≤ 16) (acc : List Edit) (hacc : acc.length ≤ 1) (v7 v10 v11 v12 v14 v15 v16 : Int) :
    f10.L0_11 N N (acc, v7, ((min a.length b.length : Nat) : Int), 0, v10, v11, v12, a, v14, v15, v16, b) = some (acc ++ bt 0 a b, v7, v10, v11, v12, a, v14, v15, v16, b) := by
  have key := loop_st (n := min a.length b.length) (I := fun i (s : List Edit) => s.length ≤ 1 + 4 * i) (Lf := fun k i s => f10.L0_11 N k (s, v7, ((min a.length b.length : Nat) : Int), i, v10, v11, v12, a, v14, v15, v16, b)) (g := fun i s => some (s ++ bt i (a.drop i) (b.drop i), v7, v10, v11, v12, a, v14, v15, v16, b))
    (fun k s _ => by
      simp only [f10.L0_11_succ, ge_dec, cond_false]
      rw [bt_end (by omega), List.append_nil])
    (fun k i s hi hI ih => by
      have h1 := List.getElem?_eq_getElem (l := a) (i := i) (by omega)
      have h2 := List.getElem?_eq_getElem (l := b) (i := i) (by omega)
      have hw := betw_len (i : Int) a[i] b[i]
      simp only [f10.L0_11_succ, lt_dec hi, cond_true, idx_get h1, idx_get h2, Option.bind_some]
      have := f32_ok N hN (i : Int) a[i].1 a[i].2.1 a[i].2.2.1 a[i].2.2.2.1 a[i].2.2.2.2 b[i].1 b[i].2.1 b[i].2.2.1 b[i].2.2.2.1 b[i].2.2.2.2 (ha _ (List.getElem_mem _)) (hb _ (List.getElem_mem _))
      rw [this, Option.bind_some, wi64_succ (show i < 9223372036854775807 by omega)]
      have hw' : (betw (i : Int) (a[i].1, a[i].2.1, a[i].2.2.1, a[i].2.2.2.1, a[i].2.2.2.2) (b[i].1, b[i].2.1, b[i].2.2.1, b[i].2.2.2.1, b[i].2.2.2.2)).length ≤ 4 := hw
      rw [chk_of (room_of (by omega) (by omega)), ih _ (by rw [List.length_append]; omega), bt_step h1 h2, List.append_assoc]) N 0 acc (by omega) (by omega) (by omega)
  simpa using key
theorem l10b (N : Nat) (hN : 1000 ≤ N) (b : List RoutineState) (hb : ∀ r ∈ b, okR r) (l2 : b.length ≤ 16) (acc : List Edit) (hacc : acc.length ≤ 100) :
    f10.L0_23 N N (acc, b, (b.length : Int), 0) = some (acc ++ b.map fun x => ((7, 0, 0, 0, 0, 0, x) : Edit)) := by
  have key := loop_st (n := b.length) (I := fun i (s : List Edit) => s.length ≤ 100 + i) (Lf := fun k i s => f10.L0_23 N k (s, b, (b.length : Int), i)) (g := fun i s => some (s ++ (b.drop i).map fun x => ((7, 0, 0, 0, 0, 0, x) : Edit)))
    (fun k s _ => by simp only [f10.L0_23_succ, ge_dec, cond_false, List.drop_length, List.map_nil, List.append_nil])
    (fun k i s hi hI ih => by
      have h2 := List.getElem?_eq_getElem hi
      simp only [f10.L0_23_succ, lt_dec hi, cond_true, idx_get h2, Option.bind_some]
      have := f33_ok N hN b[i].1 b[i].2.1 b[i].2.2.1 b[i].2.2.2.1 b[i].2.2.2.2 (hb _ (List.getElem_mem _))
      rw [this, Option.bind_some, wi64_succ (show i < 9223372036854775807 by omega), chk_of (room_of (by omega) (by omega)), ih _ (by simp; omega), List.drop_eq_getElem_cons hi, List.map_cons, List.append_assoc, List.singleton_append]) N 0 acc (by omega) (by omega) (by omega)
  simpa using key
theorem l11a (N : Nat) (hN : 1000 ≤ N) (a b : List RoutineState) (ha : ∀ r ∈ a, okR r) (hb : ∀ r ∈ b, okR r) (l1 : a.length ≤ 16) (l2 : b.length ≤ 16) (acc : List Edit) (hacc : acc.length ≤ 1) (v12 v13 v14 v16 v17 v18 : Int) :
    f11.L0_11 N N (acc, (a.length : Int), (b.length : Int), 0, v12, v13, v14, a, v16, v17, v18, b) = some (acc ++ bt 0 a b, (a.length : Int), (b.length : Int), v16, v17, v18, b) := by
  have key := loop_st (n := min a.length b.length) (I := fun i (s : List Edit) => s.length ≤ 1 + 4 * i) (Lf := fun k i s => f11.L0_11 N k (s, (a.length : Int), (b.length : Int), i, v12, v13, v14, a, v16, v17, v18, b)) (g := fun i s => some (s ++ bt i (a.drop i) (b.drop i), (a.length : Int), (b.length : Int), v16, v17, v18, b))
    (fun k s _ => by
      simp only [f11.L0_11_succ]
      rw [bt_end (by omega), List.append_nil]
      by_cases h : a.length ≤ b.length
      · rw [Nat.min_eq_left h, ge_dec, cond_false]
      · rw [Nat.min_eq_right (by omega), ge_dec, cond_false]
        cases decide ((b.length : Int) < (a.length : Int)) <;> rfl)
    (fun k i s hi hI ih => by
      have h1 := List.getElem?_eq_getElem (l := a) (i := i) (by omega)
      have h2 := List.getElem?_eq_getElem (l := b) (i := i) (by omega)
      have hw := betw_len (i : Int) a[i] b[i]
      simp only [f11.L0_11_succ, lt_dec (show i < a.length by omega), lt_dec (show i < b.length by omega), cond_true, idx_get h1, idx_get h2, Option.bind_some]
      have := f35_ok N hN (i : Int) a[i].1 a[i].2.1 a[i].2.2.1 a[i].2.2.2.1 a[i].2.2.2.2 b[i].1 b[i].2.1 b[i].2.2.1 b[i].2.2.2.1 b[i].2.2.2.2 (ha _ (List.getElem_mem _)) (hb _ (List.getElem_mem _))
      rw [this, Option.bind_some, wi64_succ (show i < 9223372036854775807 by omega)]
      have hw' : (betw (i : Int) (a[i].1, a[i].2.1, a[i].2.2.1, a[i].2.2.2.1, a[i].2.2.2.2) (b[i].1, b[i].2.1, b[i].2.2.1, b[i].2.2.2.1, b[i].2.2.2.2)).length ≤ 4 := hw
      rw [chk_of (room_of (by omega) (by omega)), ih _ (by rw [List.length_append]; omega), bt_step h1 h2, List.append_assoc]) N 0 acc (by omega) (by omega) (by omega)
  simpa using key
theorem l11b (N : Nat) (hN : 1000 ≤ N) (b : List RoutineState) (n : Nat) (hn : n ≤ 16) (l2 : b.length ≤ 16) (acc : List Edit) (hacc : acc.length ≤ 100) (v29 v30 v31 : Int) :
    f11.L0_22 N N (acc, (b.length : Int), (n : Int), v29, v30, v31, b) = some (acc ++ (b.drop n).map fun x => ((7, 0, 0, 0, 0, 0, x) : Edit)) := by
  by_cases h : n ≤ b.length
  · exact loop_st (n := b.length) (I := fun i (s : List Edit) => s.length ≤ 100 + i) (Lf := fun k i s => f11.L0_22 N k (s, (b.length : Int), i, v29, v30, v31, b)) (g := fun i s => some (s ++ (b.drop i).map fun x => ((7, 0, 0, 0, 0, 0, x) : Edit)))
      (fun k s _ => by simp only [f11.L0_22_succ, ge_dec, cond_false, List.drop_length, List.map_nil, List.append_nil])
      (fun k i s hi hI ih => by
        have h2 := List.getElem?_eq_getElem hi
        simp only [f11.L0_22_succ, lt_dec hi, cond_true, idx_get h2, Option.bind_some]
        rw [wi64_succ (show i < 9223372036854775807 by omega), chk_of (room_of (by omega) (by omega)), ih _ (by simp; omega), List.drop_eq_getElem_cons hi, List.map_cons, List.append_assoc, List.singleton_append]) N n acc (by omega) h (by omega)
  · obtain ⟨k, rfl⟩ : ∃ k, N = k + 1 := ⟨N - 1, by omega⟩
    rw [f11.L0_22_succ, decide_eq_false (show ¬ (n : Int) < b.length by omega), cond_false, List.drop_eq_nil_of_le (by omega)]
    simp

/-- the edits from a state to another one -/
noncomputable def listS (a b : State) : List Edit :=
  ((opt (a.1 ≠ b.1 ∨ a.2.1 ≠ b.2.1 ∨ a.2.2.1 ≠ b.2.2.1) (1, 0, 0, b.1, b.2.1, b.2.2.1, 0, 0, [], [], []) ++ bt 0 a.2.2.2 b.2.2.2) ++
  opt (b.2.2.2.length < a.2.2.2.length) (6, (b.2.2.2.length : Int), 0, 0, 0, 0, 0, 0, [], [], [])) ++ (b.2.2.2.drop a.2.2.2.length).map fun x => ((7, 0, 0, 0, 0, 0, x) : Edit)
theorem listS_ok {a b : State} (hb : okS b) : ∀ e ∈ listS a b, okE e := by
  intro e he
  simp only [listS, List.mem_append] at he
  rcases he with ((he | he) | he) | he
  · rw [(opt_mem he).2]; exact okR_1 _ _
  · exact bt_ok _ _ _ hb.2 e he
  · rw [(opt_mem he).2]; exact okR_1 _ _
  · obtain ⟨x, hx, rfl⟩ := List.mem_map.1 he
    exact hb.2 x (List.mem_of_mem_drop hx)
theorem listS_len {a b : State} (l1 : a.2.2.2.length ≤ 16) (l2 : b.2.2.2.length ≤ 16) : (listS a b).length ≤ 82 := by
  simp only [listS, List.length_append, List.length_map, List.length_drop]
  have h1 := opt_len (a.1 ≠ b.1 ∨ a.2.1 ≠ b.2.1 ∨ a.2.2.1 ≠ b.2.2.1) (1, 0, 0, b.1, b.2.1, b.2.2.1, 0, 0, [], [], [])
  have h2 := opt_len (b.2.2.2.length < a.2.2.2.length) (6, (b.2.2.2.length : Int), 0, 0, 0, 0, 0, 0, [], [], [])
  have h3 := bt_len 0 a.2.2.2 b.2.2.2
  omega
/-- what the program and the reference give -/
noncomputable def listR (a b : State) : List Edit × Int := if wholeB a && wholeB b then (listS a b, 0) else ([], 4)

theorem bifOpt {c : Prop} {e : Edit} {α : Type} {f : List Edit → α} {b : Bool} (hb : b = decide c) : (bif b then some (f [e]) else some (f [])) = some (f (opt c e)) := by
  subst hb
  unfold opt
  by_cases h : c
  · rw [decide_eq_true h, cond_true, if_pos h]
  · rw [decide_eq_false h, cond_false, if_neg h]
theorem f10_ok (N : Nat) (hN : 1000 ≤ N) (a b : State) (ha : okS a) (hb : okS b) : F10 N (a.1, a.2.1, a.2.2.1, a.2.2.2, b.1, b.2.1, b.2.2.1, b.2.2.2) = some (listR a b) := by
  obtain ⟨p0, p1, p2, p3⟩ := a
  obtain ⟨p4, p5, p6, p7⟩ := b
  simp only
  rw [F10_eq, f31_ok N hN [(p0, p1, p2, p3), (p4, p5, p6, p7)] (by simp) (by simp [ha, hb]), Option.bind_some]
  have hall : [((p0, p1, p2, p3) : State), (p4, p5, p6, p7)].all wholeB = (wholeB (p0, p1, p2, p3) && wholeB (p4, p5, p6, p7)) := by simp
  rw [hall]
  cases hw : wholeB (p0, p1, p2, p3) && wholeB (p4, p5, p6, p7) with
  | false => simp only [Bool.not_false, cond_true, Option.bind_some, listR, hw]; rfl
  | true =>
    rw [Bool.and_eq_true] at hw
    have l1 : p3.length ≤ 16 := of_decide_eq_true hw.1
    have l2 : p7.length ≤ 16 := of_decide_eq_true hw.2
    simp only [Bool.not_true, cond_false, Option.bind_some, listR, hw]
    refine bindE (decide (p0 ≠ p4 ∨ p1 ≠ p5 ∨ p2 ≠ p6), p0, p1, p2, p3, p4, p5, p6, p7) ?_ ?_
    · by_cases h1 : p0 = p4 <;> by_cases h2 : p1 = p5 <;> by_cases h3 : p2 = p6 <;> simp [h1, h2, h3, Bool.cond_eq_ite]
    simp only
    let E1 : List Edit := opt (p0 ≠ p4 ∨ p1 ≠ p5 ∨ p2 ≠ p6) (1, 0, 0, p4, p5, p6, 0, 0, [], [], [])
    have e1 : E1.length ≤ 1 := opt_len _ _
    refine bindE (E1, p0, p1, p2, p3, p4, p5, p6, p7) ?_ ?_
    · rw [chk_of (room_of (by omega) (by omega))]
      exact bifOpt (f := fun l => (l, p0, p1, p2, p3, p4, p5, p6, p7)) (decide_eq_decide.2 Iff.rfl)
    simp only
    have hmin : (min (p3.length : Int) (p7.length : Int)) = ((min p3.length p7.length : Nat) : Int) := by omega
    rw [hmin]
    refine bindE (E1 ++ bt 0 p3 p7, ((min p3.length p7.length : Nat) : Int), p0, p1, p2, p3, p4, p5, p6, p7) ?_ ?_
    · rw [l10a N hN p3 p7 ha.2 hb.2 l1 l2 E1 e1, Option.bind_some]
    simp only
    have hbt := bt_len 0 p3 p7
    let E3 : List Edit := (E1 ++ bt 0 p3 p7) ++ opt (p7.length < p3.length) (6, (p7.length : Int), 0, 0, 0, 0, 0, 0, [], [], [])
    have e2 : (E1 ++ bt 0 p3 p7).length ≤ 65 := by rw [List.length_append]; omega
    have e3 : E3.length ≤ 66 := by
      have := opt_len (p7.length < p3.length) (6, (p7.length : Int), 0, 0, 0, 0, 0, 0, [], [], [])
      simp only [E3]
      rw [List.length_append]
      omega
    refine bindE (E3, ((min p3.length p7.length : Nat) : Int), p4, p5, p6, p7) ?_ ?_
    · rw [chk_of (room_of (by omega) (by omega))]
      by_cases h : p7.length < p3.length
      · rw [decide_eq_true (show ((min p3.length p7.length : Nat) : Int) < (p3.length : Int) by omega), cond_true]
        simp only [E3, opt, if_pos h]
        rw [Nat.min_eq_right (by omega)]
      · rw [decide_eq_false (show ¬ ((min p3.length p7.length : Nat) : Int) < (p3.length : Int) by omega), cond_false]
        simp only [E3, opt, if_neg h, List.append_nil]
    simp only
    have hd : p7.drop (min p3.length p7.length) = p7.drop p3.length := by
      by_cases h : p3.length ≤ p7.length
      · rw [Nat.min_eq_left h]
      · rw [Nat.min_eq_right (by omega), List.drop_length, List.drop_eq_nil_of_le (by omega)]
    rw [chk_of (decide_eq_true (by omega)), Int.toNat_natCast, chk_of (decide_eq_true (by omega)), hd, l10b N hN (p7.drop p3.length) (fun r hr => hb.2 r (List.mem_of_mem_drop hr)) (by simp; omega) E3 (by omega), Option.bind_some]
    rfl
theorem f11_ok (N : Nat) (hN : 1000 ≤ N) (a b : State) (ha : okS a) (hb : okS b) : F11 N (a.1, a.2.1, a.2.2.1, a.2.2.2, b.1, b.2.1, b.2.2.1, b.2.2.2) = some (listR a b) := by
  obtain ⟨p0, p1, p2, p3⟩ := a
  obtain ⟨p4, p5, p6, p7⟩ := b
  simp only
  rw [F11_eq]
  refine bindE (!(wholeB (p0, p1, p2, p3) && wholeB (p4, p5, p6, p7)), p0, p1, p2, p3, p4, p5, p6, p7) ?_ ?_
  · rw [f34_ok N hN (p0, p1, p2, p3) ha, f34_ok N hN (p4, p5, p6, p7) hb, Option.bind_some, Option.bind_some]
    cases wholeB (p0, p1, p2, p3) <;> cases wholeB (p4, p5, p6, p7) <;> rfl
  simp only
  cases hw : wholeB (p0, p1, p2, p3) && wholeB (p4, p5, p6, p7) with
  | false => simp only [Bool.not_false, cond_true, Option.bind_some, listR, hw]; rfl
  | true =>
    rw [Bool.and_eq_true] at hw
    have l1 : p3.length ≤ 16 := of_decide_eq_true hw.1
    have l2 : p7.length ≤ 16 := of_decide_eq_true hw.2
    simp only [Bool.not_true, cond_false, Option.bind_some, listR, hw]
    refine bindE (decide (p0 ≠ p4 ∨ p1 ≠ p5 ∨ p2 ≠ p6), p0, p1, p2, p3, p4, p5, p6, p7) ?_ ?_
    · by_cases h1 : p0 = p4 <;> by_cases h2 : p1 = p5 <;> by_cases h3 : p2 = p6 <;> simp [h1, h2, h3, Bool.cond_eq_ite]
    simp only
    let E1 : List Edit := opt (p0 ≠ p4 ∨ p1 ≠ p5 ∨ p2 ≠ p6) (1, 0, 0, p4, p5, p6, 0, 0, [], [], [])
    have e1 : E1.length ≤ 1 := opt_len _ _
    refine bindE (E1, p0, p1, p2, p3, p4, p5, p6, p7) ?_ ?_
    · rw [chk_of (room_of (by omega) (by omega))]
      exact bifOpt (f := fun l => (l, p0, p1, p2, p3, p4, p5, p6, p7)) (decide_eq_decide.2 Iff.rfl)
    simp only
    refine bindE (E1 ++ bt 0 p3 p7, (p3.length : Int), (p7.length : Int), p4, p5, p6, p7) ?_ ?_
    · rw [l11a N hN p3 p7 ha.2 hb.2 l1 l2 E1 e1, Option.bind_some]
    simp only
    have hbt := bt_len 0 p3 p7
    let E3 : List Edit := (E1 ++ bt 0 p3 p7) ++ opt (p7.length < p3.length) (6, (p7.length : Int), 0, 0, 0, 0, 0, 0, [], [], [])
    have e2 : (E1 ++ bt 0 p3 p7).length ≤ 65 := by rw [List.length_append]; omega
    have e3 : E3.length ≤ 66 := by
      have := opt_len (p7.length < p3.length) (6, (p7.length : Int), 0, 0, 0, 0, 0, 0, [], [], [])
      simp only [E3]
      rw [List.length_append]
      omega
    refine bindE (E3, (p3.length : Int), (p7.length : Int), p4, p5, p6, p7) ?_ ?_
    · rw [chk_of (room_of (by omega) (by omega))]
      by_cases h : p7.length < p3.length
      · rw [decide_eq_true (show (p7.length : Int) < (p3.length : Int) by omega), cond_true]
        simp only [E3, opt, if_pos h]
      · rw [decide_eq_false (show ¬ (p7.length : Int) < (p3.length : Int) by omega), cond_false]
        simp only [E3, opt, if_neg h, List.append_nil]
    simp only
    rw [l11b N hN p7 p3.length l1 l2 E3 (by omega), Option.bind_some]
    rfl

/- ## The same states -/
noncomputable def sameR (a b : State) : Bool × Int := if wholeB a && wholeB b then (decide (a = b), 0) else (false, 4)
theorem f12_ok (N : Nat) (hN : 1000 ≤ N) (a b : State) (ha : okS a) (hb : okS b) : F12 N (a.1, a.2.1, a.2.2.1, a.2.2.2, b.1, b.2.1, b.2.2.1, b.2.2.2) = some (sameR a b) := by
  obtain ⟨p0, p1, p2, p3⟩ := a
  obtain ⟨p4, p5, p6, p7⟩ := b
  simp only
  rw [F12_eq, f31_ok N hN [(p0, p1, p2, p3), (p4, p5, p6, p7)] (by simp) (by simp [ha, hb]), Option.bind_some]
  have hall : [((p0, p1, p2, p3) : State), (p4, p5, p6, p7)].all wholeB = (wholeB (p0, p1, p2, p3) && wholeB (p4, p5, p6, p7)) := by simp
  rw [hall]
  cases hw : wholeB (p0, p1, p2, p3) && wholeB (p4, p5, p6, p7) with
  | false => simp only [Bool.not_false, cond_true, sameR, hw]; rfl
  | true =>
    simp only [Bool.not_true, cond_false, sameR, hw, len_ne, if_true]
    by_cases h1 : p0 = p4
    · by_cases h2 : p1 = p5
      · by_cases h3 : p2 = p6
        · by_cases h4 : p3.length = p7.length
          · have hb := ha.1
            simp only at hb
            have key := loop_eq (l := p3) (m := p7) (a := (.inr () : Bool ⊕ Unit)) (b := .inl false) (Lf := fun k i => f12.L1035000_6 N k (p7, p3, (p3.length : Int), i)) h4 (fun k => by simp only [f12.L1035000_6_succ, ge_dec, cond_false]) (fun k i x y hx hy hi hj => by
              have hi' := (List.getElem?_eq_some_iff.1 hi).1
              simp only [f12.L1035000_6_succ, lt_dec hi', cond_true, idx_get hi, idx_get hj, Option.bind_some, wi64_succ (show i < 9223372036854775807 by omega)]
              have := f37_ok x.1 x.2.1 x.2.2.1 x.2.2.2.1 x.2.2.2.2 y.1 y.2.1 y.2.2.1 y.2.2.2.1 y.2.2.2.2 N hN (ha.2 x hx)
              rw [this, Option.bind_some]
              by_cases hxy : x = y
              · subst hxy; simp
              · have : decide (((x.1, x.2.1, x.2.2.1, x.2.2.2.1, x.2.2.2.2) : RoutineState) = (y.1, y.2.1, y.2.2.1, y.2.2.2.1, y.2.2.2.2)) = false := decide_eq_false hxy
                rw [this, Bool.not_false, cond_true, if_neg hxy]) N (by omega)
            simp only [h1, h2, h3, beq_self_eq_true, cond_true, h4, decide_true, Bool.not_true, cond_false]
            rw [h4] at key
            rw [key, Option.bind_some]
            by_cases h5 : p3 = p7 <;> simp [h5]
          · simp [h1, h2, h3, h4, ne_len h4]
        · simp [h1, h2, h3, Bool.cond_eq_ite]
      · simp [h1, h2, Bool.cond_eq_ite]
    · simp [h1, Bool.cond_eq_ite]
theorem f19_ok (N : Nat) (hN : 1000 ≤ N) (a b : State) (ha : okS a) : F19 N (a.1, a.2.1, a.2.2.1, a.2.2.2, b.1, b.2.1, b.2.2.1, b.2.2.2) = some (decide (a = b)) := by
  obtain ⟨p0, p1, p2, p3⟩ := a
  obtain ⟨p4, p5, p6, p7⟩ := b
  simp only
  rw [F19_eq, len_ne]
  by_cases h1 : p0 = p4
  · by_cases h2 : p1 = p5
    · by_cases h3 : p2 = p6
      · by_cases h4 : p3.length = p7.length
        · have hb := ha.1
          simp only at hb
          have key := loop_eq (l := p3) (m := p7) (a := (.inr () : Bool ⊕ Unit)) (b := .inl false) (Lf := fun k i => f19.L0_6 N k (i, p4, p5, p6, p3, p4, p5, p6, p7)) h4 (fun k => by simp only [f19.L0_6_succ, ge_dec, cond_false]) (fun k i x y hx hy hi hj => by
            have hi' := (List.getElem?_eq_some_iff.1 hi).1
            simp only [f19.L0_6_succ, lt_dec hi', cond_true, idx_get hi, idx_get hj, Option.bind_some, wi64_succ (show i < 9223372036854775807 by omega)]
            have := f23_ok x.1 x.2.1 x.2.2.1 x.2.2.2.1 x.2.2.2.2 y.1 y.2.1 y.2.2.1 y.2.2.2.1 y.2.2.2.2 N hN (ha.2 x hx)
            rw [this, Option.bind_some]
            by_cases hxy : x = y
            · subst hxy; simp
            · have : decide (((x.1, x.2.1, x.2.2.1, x.2.2.2.1, x.2.2.2.2) : RoutineState) = (y.1, y.2.1, y.2.2.1, y.2.2.2.1, y.2.2.2.2)) = false := decide_eq_false hxy
              rw [this, Bool.not_false, cond_true, if_neg hxy]) N (by omega)
          simp only [h1, h2, h3, bne_self_eq_false, h4, decide_true, Bool.not_true, cond_false]
          rw [key, Option.bind_some]
          by_cases h5 : p3 = p7 <;> simp [h5]
        · simp [h1, h2, h3, h4, ne_len h4]
      · simp [h1, h2, h3, Bool.cond_eq_ite]
    · simp [h1, h2, Bool.cond_eq_ite]
  · simp [h1, Bool.cond_eq_ite]
theorem f13_ok (N : Nat) (hN : 1000 ≤ N) (a b : State) (ha : okS a) (hb : okS b) : F13 N (a.1, a.2.1, a.2.2.1, a.2.2.2, b.1, b.2.1, b.2.2.1, b.2.2.2) = some (sameR a b) := by
  have e := f19_ok N hN a b ha
  obtain ⟨p0, p1, p2, p3⟩ := a
  obtain ⟨p4, p5, p6, p7⟩ := b
  simp only at e ⊢
  rw [F13_eq, f34_ok N hN (p0, p1, p2, p3) ha, f34_ok N hN (p4, p5, p6, p7) hb, e]
  simp only [Option.bind_some, sameR]
  cases wholeB (p0, p1, p2, p3) <;> cases wholeB (p4, p5, p6, p7) <;> rfl

/- ## The same edits -/
theorem f38_ok (N : Nat) (hN : 1000 ≤ N) (a b : Edit) (h : okE a) : F38 N (a.1, a.2.1, a.2.2.1, a.2.2.2.1, a.2.2.2.2.1, a.2.2.2.2.2.1, a.2.2.2.2.2.2.1, a.2.2.2.2.2.2.2.1, a.2.2.2.2.2.2.2.2.1, a.2.2.2.2.2.2.2.2.2.1, a.2.2.2.2.2.2.2.2.2.2,
    b.1, b.2.1, b.2.2.1, b.2.2.2.1, b.2.2.2.2.1, b.2.2.2.2.2.1, b.2.2.2.2.2.2.1, b.2.2.2.2.2.2.2.1, b.2.2.2.2.2.2.2.2.1, b.2.2.2.2.2.2.2.2.2.1, b.2.2.2.2.2.2.2.2.2.2) = some (decide (a = b)) := by
  obtain ⟨a1, a2, a3, a4, a5, a6, a7, a8, a9, a10, a11⟩ := a
  obtain ⟨b1, b2, b3, b4, b5, b6, b7, b8, b9, b10, b11⟩ := b
  simp only
  rw [F38_eq, f23_ok a7 a8 a9 a10 a11 b7 b8 b9 b10 b11 N hN h, Option.bind_some]
  by_cases h1 : a1 = b1
  · by_cases h2 : a2 = b2
    · by_cases h3 : a3 = b3
      · by_cases h4 : a4 = b4
        · by_cases h5 : a5 = b5
          · by_cases h6 : a6 = b6 <;> simp [h1, h2, h3, h4, h5, h6, Bool.cond_eq_ite]
          · simp [h1, h2, h3, h4, h5, Bool.cond_eq_ite]
        · simp [h1, h2, h3, h4, Bool.cond_eq_ite]
      · simp [h1, h2, h3, Bool.cond_eq_ite]
    · simp [h1, h2, Bool.cond_eq_ite]
  · simp [h1, Bool.cond_eq_ite]
theorem f14_ok (N : Nat) (hN : 1000 ≤ N) (l m : List Edit) (h : ∀ e ∈ l, okE e) (hb : l.length ≤ 900) : F14 N (l, m) = some (decide (l = m)) := by
  rw [F14_eq, len_ne]
  by_cases hl : l.length = m.length
  · have key := loop_eq (l := l) (m := m) (a := (.inr () : Bool ⊕ Unit)) (b := .inl false) (Lf := fun k i => f14.L0_6 N k (l, m, i)) hl (fun k => by simp only [f14.L0_6_succ, ge_dec, cond_false]) (fun k i x y hx hy hi hj => by
      have hi' := (List.getElem?_eq_some_iff.1 hi).1
      simp only [f14.L0_6_succ, lt_dec hi', cond_true, idx_get hi, idx_get hj, Option.bind_some, f38_ok N hN x y (h x hx), wi64_succ (show i < 9223372036854775807 by omega)]
      by_cases hxy : x = y <;> simp [hxy]) N (by omega)
    simp only [hl, decide_true, Bool.not_true, cond_false, key, Option.bind_some]
    by_cases h5 : l = m <;> simp [h5]
  · simp [hl, ne_len hl]

theorem finds_ok (N : Nat) (hN : 1000 ≤ N) (a b : State) : F3 N (a.1, a.2.1, a.2.2.1, a.2.2.2, b.1, b.2.1, b.2.2.1, b.2.2.2) = some true := by
  rw [F3_eq]
  obtain ⟨x, h1, h2⟩ := f9_ok N hN a
  have h1 : F9 N (a.1, a.2.1, a.2.2.1, a.2.2.2) = some x := h1
  rw [h1, Option.bind_some]
  cases x with
  | true => rfl
  | false =>
    rw [cond_false]
    obtain ⟨y, h3, h4⟩ := f9_ok N hN b
    have h3 : F9 N (b.1, b.2.1, b.2.2.1, b.2.2.2) = some y := h3
    rw [h3, Option.bind_some]
    cases y with
    | true => rfl
    | false =>
      have ha := h2 rfl
      have hb := h4 rfl
      have key : F14 N ((listR a b).1, (listR a b).1) = some true := by
        unfold listR
        cases hw : wholeB a && wholeB b with
        | false =>
          rw [if_neg (by simp), f14_ok N hN [] [] (by simp) (by simp)]
          simp
        | true =>
          rw [Bool.and_eq_true] at hw
          have l1 : a.2.2.2.length ≤ 16 := of_decide_eq_true hw.1
          have l2 : b.2.2.2.length ≤ 16 := of_decide_eq_true hw.2
          have := listS_len l1 l2
          rw [if_pos rfl, f14_ok N hN _ _ (listS_ok hb) (by omega)]
          simp
      rw [cond_false, f10_ok N hN a b ha hb, f11_ok N hN a b ha hb, f12_ok N hN a b ha hb, f13_ok N hN a b ha hb]
      simp only [Option.bind_some, key, cond_true, beq_self_eq_true]
theorem finds_law : ∀ x, okL [.int .u8, .int .i64, .int .i64, .sl TRoutineState, .int .u8, .int .i64, .int .i64, .sl TRoutineState] x → F3 6000 x = some true := by
  intro x _
  exact finds_ok 6000 (by omega) (x.1, x.2.1, x.2.2.1, x.2.2.2.1) x.2.2.2.2
end Go.Proofs.Ytdefleeofgekkaa
