/- r43: DifferRest (plain). -/
import Derived.Test.YtdefleeofgekkaaLaw43R
namespace Go.Proofs.Ytdefleeofgekkaa
open Go Go.Eng Go.Sym
attribute [local instance] Classical.propDecidable

/- ## Whole numbers in order -/
theorem insI_le (x : Int) : ∀ l : List Int, (∀ y ∈ l, x ≤ y) → insI x l = x :: l
  | [], _ => rfl
  | y :: r, h => by
    unfold insI
    rw [decide_eq_true (h y (List.mem_cons_self ..))]
theorem sortI_rep (g : Int) (l : List Int) (h : ∀ y ∈ l, g ≤ y) (hs : sortI l = l) : ∀ n, sortI (List.replicate n g ++ l) = List.replicate n g ++ l
  | 0 => by simpa using hs
  | n + 1 => by
    rw [List.replicate_succ, List.cons_append, sortI, sortI_rep g l h hs n, insI_le]
    intro y hy
    rcases List.mem_append.1 hy with hy | hy
    · rw [(List.mem_replicate.1 hy).2]; exact Int.le_refl _
    · exact h y hy
theorem compI_cons (x : Int) (l : List Int) (h : ∀ y ∈ l, x < y) : compI (x :: l) = x :: compI l := by
  cases l with
  | nil => rfl
  | cons y r =>
    show (match decide (x = y) with | true => compI (y :: r) | false => x :: compI (y :: r)) = _
    rw [decide_eq_false (by have := h y (List.mem_cons_self ..); omega)]
theorem compI_two (x : Int) (l : List Int) : compI (x :: x :: l) = compI (x :: l) := by
  rw [compI]
  simp only [decide_true]
theorem compI_rep (g : Int) (l : List Int) (h : ∀ y ∈ l, g < y) : ∀ n, compI (List.replicate (n + 1) g ++ l) = g :: compI l
  | 0 => compI_cons g l h
  | n + 1 => by
    have ih := compI_rep g l h n
    rw [List.replicate_succ, List.cons_append] at ih ⊢
    rw [List.replicate_succ, List.cons_append, compI_two]
    exact ih

/- ## What is touched -/
def outG : List Edit → List Int
  | [] => []
  | e :: l => if 2 ≤ e.1 ∧ e.1 ≤ 5 then e.2.1 :: outG l else outG l
theorem outG_append : ∀ l m : List Edit, outG (l ++ m) = outG l ++ outG m
  | [], m => rfl
  | e :: l, m => by
    rw [List.cons_append, outG, outG, outG_append l m]
    split <;> rfl
theorem outG_none : ∀ l : List Edit, (∀ e ∈ l, ¬ (2 ≤ e.1 ∧ e.1 ≤ 5)) → outG l = []
  | [], _ => rfl
  | e :: l, h => by
    rw [outG, if_neg (h e (List.mem_cons_self ..)), outG_none l fun e he => h e (List.mem_cons_of_mem _ he)]
theorem outG_all (g : Int) : ∀ l : List Edit, (∀ e ∈ l, (2 ≤ e.1 ∧ e.1 ≤ 5) ∧ e.2.1 = g) → outG l = List.replicate l.length g
  | [], _ => rfl
  | e :: l, h => by
    have h1 := h e (List.mem_cons_self ..)
    rw [outG, if_pos h1.1, outG_all g l fun e he => h e (List.mem_cons_of_mem _ he), h1.2]
    rfl
theorem betw_kind (g : Int) (x y : RoutineState) : ∀ e ∈ betw g x y, (2 ≤ e.1 ∧ e.1 ≤ 5) ∧ e.2.1 = g := by
  intro e he
  simp only [betw, List.mem_append] at he
  rcases he with ((he | he) | he) | he <;> (rw [(opt_mem he).2]; simp)
theorem betw_nil {g : Nat} {x y : RoutineState} (hx : fairP x) (hy : fairP y) (h : betw (g : Int) x y = []) : x = y := by
  have hw : wholeP (0, 0, 0, List.replicate 0 x ++ x :: []) := ⟨by simp, by simp [hx]⟩
  have h0 : betw ((List.replicate 0 x).length : Int) x y = [] := by
    -- the number of the goroutine says nothing of whether there are edits
    have hl : (betw ((List.replicate 0 x).length : Int) x y).length = (betw (g : Int) x y).length := by
      simp only [betw, List.length_append, opt]
      congr 1
      · congr 1
        · congr 1
          · split <;> rfl
          · split <;> rfl
        · split <;> rfl
      · split <;> rfl
    rw [h] at hl
    exact List.eq_nil_of_length_eq_zero hl
  have := betw_run hw hy
  rw [h0, runE] at this
  injection this with this
  injection this with _ this
  injection this with _ this
  injection this with _ this
  simpa using this
/-- the numbers of those that differ -/
noncomputable def tch : Nat → List RoutineState → List RoutineState → List Int
  | g, x :: xs, y :: ys => if x = y then tch (g + 1) xs ys else (g : Int) :: tch (g + 1) xs ys
  | _, _, _ => []
theorem tch_le : ∀ (g : Nat) (xs ys : List RoutineState), ∀ z ∈ tch g xs ys, (g : Int) ≤ z
  | g, [], _, z, h => by simp [tch] at h
  | g, _ :: _, [], z, h => by simp [tch] at h
  | g, x :: xs, y :: ys, z, h => by
    rw [tch] at h
    split at h
    · have := tch_le (g + 1) xs ys z h; omega
    · rcases List.mem_cons.1 h with rfl | h
      · omega
      · have := tch_le (g + 1) xs ys z h; omega
theorem bt_out : ∀ (g : Nat) (xs ys : List RoutineState), (∀ r ∈ xs, fairP r) → (∀ r ∈ ys, fairP r) →
    (∀ z ∈ outG (bt g xs ys), (g : Int) ≤ z) ∧ sortI (outG (bt g xs ys)) = outG (bt g xs ys) ∧ compI (outG (bt g xs ys)) = tch g xs ys
  | g, [], _, _, _ => by simp [bt, outG, sortI, compI, tch]
  | g, _ :: _, [], _, _ => by simp [bt, outG, sortI, compI, tch]
  | g, x :: xs, y :: ys, hx, hy => by
    obtain ⟨h1, h2, h3⟩ := bt_out (g + 1) xs ys (fun r hr => hx r (List.mem_cons_of_mem _ hr)) fun r hr => hy r (List.mem_cons_of_mem _ hr)
    have hf := hx x (List.mem_cons_self ..)
    have hf' := hy y (List.mem_cons_self ..)
    rw [bt, outG_append, outG_all (g : Int) _ (betw_kind (g : Int) x y)]
    have hlt : ∀ z ∈ outG (bt (g + 1) xs ys), (g : Int) < z := fun z hz => by have := h1 z hz; omega
    refine ⟨fun z hz => ?_, sortI_rep _ _ (fun z hz => Int.le_of_lt (hlt z hz)) h2 _, ?_⟩
    · rcases List.mem_append.1 hz with hz | hz
      · rw [(List.mem_replicate.1 hz).2]; exact Int.le_refl _
      · exact Int.le_of_lt (hlt z hz)
    · rw [tch]
      by_cases h : x = y
      · subst h
        rw [if_pos rfl, betw_self]
        simpa using h3
      · rw [if_neg h]
        cases hb : betw (g : Int) x y with
        | nil => exact absurd (betw_nil hf hf' hb) h
        | cons e l => rw [List.length_cons, compI_rep _ _ hlt, h3]
theorem list_out {a b : State} (ha : wholeP a) (hb : wholeP b) : compI (sortI (outG (listS a b))) = tch 0 a.2.2.2 b.2.2.2 := by
  obtain ⟨_, h2, h3⟩ := bt_out 0 a.2.2.2 b.2.2.2 ha.2 hb.2
  have e : outG (listS a b) = outG (bt 0 a.2.2.2 b.2.2.2) := by
    unfold listS
    rw [outG_append, outG_append, outG_append, outG_none (opt _ _) (fun e he => by rw [(opt_mem he).2]; simp), outG_none (opt _ _) (fun e he => by rw [(opt_mem he).2]; simp), outG_none (List.map _ _) (fun e he => by
      obtain ⟨r, _, rfl⟩ := List.mem_map.1 he
      simp)]
    simp
  rw [e, h2, h3]

/- ## The functions -/
theorem sortI_len : ∀ l : List Int, (sortI l).length = l.length := sortI_length
theorem outG_len : ∀ l : List Edit, (outG l).length ≤ l.length
  | [] => Nat.le_refl _
  | e :: l => by
    rw [outG]
    have := outG_len l
    split <;> simp <;> omega
theorem loop22 (N : Nat) (l : List Edit) (hl : l.length ≤ 100) : ∀ (k i : Nat) (acc : List Int), i ≤ l.length → l.length - i < k → acc.length ≤ i → f22.L0_8 N k (l, (l.length : Int), (i : Int), acc) = some (acc ++ outG (l.drop i))
  | 0, i, acc, _, h2, _ => by omega
  | k + 1, i, acc, h1, h2, h3 => by
    by_cases hi : i < l.length
    · have hd : l.drop i = l[i] :: l.drop (i + 1) := List.drop_eq_getElem_cons hi
      rw [f22.L0_8_succ, lt_dec hi, cond_true, idx_get (List.getElem?_eq_getElem hi), Option.bind_some, hd, outG, wi64_succ (by omega)]
      by_cases g1 : l[i].1 ≥ 2
      · rw [decide_eq_true g1, cond_true]
        by_cases g2 : l[i].1 ≤ 5
        · rw [decide_eq_true g2, cond_true, chk_of (room_of (by omega) (by omega)), loop22 N l hl k (i + 1) _ hi (by omega) (by simp; omega), if_pos ⟨g1, g2⟩]
          simp
        · rw [decide_eq_false g2, cond_false, loop22 N l hl k (i + 1) _ hi (by omega) (by omega), if_neg fun h => g2 h.2]
      · rw [decide_eq_false g1, cond_false, loop22 N l hl k (i + 1) _ hi (by omega) (by omega), if_neg fun h => g1 h.1]
    · have : i = l.length := by omega
      subst this
      rw [f22.L0_8_succ, ge_dec, cond_false, List.drop_length]
      simp [outG]
theorem f22_ok (N : Nat) (hN : 1000 ≤ N) (l : List Edit) (he : ∀ e ∈ l, okE e) (hc : checkS l = 0) : F22 N l = some (compI (sortI (outG l)), 0) := by
  have hlen : l.length ≤ 100 := by
    unfold checkS at hc
    split at hc
    · cases hc
    · omega
  have hl := loop22 N l hlen N 0 [] (by omega) (by omega) (by simp)
  have hol := outG_len l
  rw [F22_eq, f41_ok N hN l he, Option.bind_some, hc, show ((0 : Int) != 0) = false from rfl, cond_false]
  rw [show ((0 : Nat) : Int) = 0 from rfl, List.drop_zero, List.nil_append] at hl
  rw [hl, Option.bind_some, chk_of (decide_eq_true (by omega)), chk_of (decide_eq_true (by rw [sortI_len]; omega))]

/-- the last loop: what was touched so far, what is left -/
theorem loop6 (N : Nat) (hN : 1000 ≤ N) (a b : State) (ha : ∀ r ∈ a.2.2.2, okR r) (l1 : a.2.2.2.length ≤ 16) (l2 : b.2.2.2.length ≤ 16) (t : List Int) (ht : t.length ≤ 16) :
    ∀ (k i j : Nat), i ≤ a.2.2.2.length → i ≤ b.2.2.2.length → 17 - i < k → t.drop j = tch i (a.2.2.2.drop i) (b.2.2.2.drop i) → j ≤ t.length →
    f6.L0_13 N k (true, t, (j : Int), (i : Int), a.1, a.2.1, a.2.2.1, a.2.2.2, b.1, b.2.1, b.2.2.1, b.2.2.2) = some (.inr (true, t, (t.length : Int)))
  | 0, i, j, _, _, h, _, _ => by omega
  | k + 1, i, j, h1, h2, h3, h4, h5 => by
    rw [f6.L0_13_succ]
    have fin : (a.2.2.2.length ≤ i ∨ b.2.2.2.length ≤ i) → j = t.length := by
      intro h
      have : tch i (a.2.2.2.drop i) (b.2.2.2.drop i) = [] := by
        rcases h with h | h
        · rw [List.drop_eq_nil_of_le h]; cases b.2.2.2.drop i <;> rfl
        · rw [List.drop_eq_nil_of_le h]; cases a.2.2.2.drop i <;> rfl
      rw [this] at h4
      have := List.drop_eq_nil_iff.1 h4
      omega
    by_cases hi : i < a.2.2.2.length
    · rw [lt_dec hi, cond_true]
      by_cases hi' : i < b.2.2.2.length
      · rw [lt_dec hi', cond_true]
        have ga := List.getElem?_eq_getElem hi
        have gb := List.getElem?_eq_getElem hi'
        have hr := ha _ (List.getElem_mem hi)
        rw [List.drop_eq_getElem_cons hi, List.drop_eq_getElem_cons hi', tch] at h4
        rw [idx_get ga, idx_get gb]
        simp only [Option.bind_some]
        generalize a.2.2.2[i] = x at hr h4 ⊢
        generalize b.2.2.2[i] = y at h4 ⊢
        have e23 := f23_ok x.1 x.2.1 x.2.2.1 x.2.2.2.1 x.2.2.2.2 y.1 y.2.1 y.2.2.1 y.2.2.2.1 y.2.2.2.2 N hN hr
        have e23 : F23 N (x.1, x.2.1, x.2.2.1, x.2.2.2.1, x.2.2.2.2, y.1, y.2.1, y.2.2.1, y.2.2.2.1, y.2.2.2.2) = some (decide (x = y)) := e23
        simp only [e23, Option.bind_some]
        rw [wi64_succ (show i < 9223372036854775807 by omega)]
        by_cases hxy : x = y
        · rw [if_pos hxy] at h4
          rw [decide_eq_true hxy]
          have ih := loop6 N hN a b ha l1 l2 t ht k (i + 1) j hi hi' (by omega) h4 h5
          by_cases hj : j < t.length
          · have hmem : t[j] ∈ tch (i + 1) (a.2.2.2.drop (i + 1)) (b.2.2.2.drop (i + 1)) := by rw [← h4, List.drop_eq_getElem_cons hj]; exact List.mem_cons_self ..
            have hge := tch_le _ _ _ _ hmem
            have hne : (t[j] == (i : Int)) = false := by
              have : t[j] ≠ (i : Int) := by omega
              simpa using this
            rw [lt_dec hj, cond_true, idx_get (List.getElem?_eq_getElem hj), Option.bind_some, hne]
            simp only [cond_false, show (false == true) = false from rfl]
            exact ih
          · rw [decide_eq_false (show ¬ (j : Int) < (t.length : Int) by omega), cond_false]
            simp only [cond_false, show (false == true) = false from rfl]
            exact ih
        · rw [if_neg hxy] at h4
          rw [decide_eq_false hxy]
          have hj : j < t.length := by
            rcases Nat.lt_or_ge j t.length with h | h
            · exact h
            · rw [List.drop_eq_nil_of_le h] at h4; cases h4
          rw [List.drop_eq_getElem_cons hj] at h4
          injection h4 with h6 h7
          have ih := loop6 N hN a b ha l1 l2 t ht k (i + 1) (j + 1) hi hi' (by omega) h7 hj
          have he : (t[j] == (i : Int)) = true := by simpa using h6
          rw [lt_dec hj, cond_true, idx_get (List.getElem?_eq_getElem hj), Option.bind_some, he, wi64_succ (show j < 9223372036854775807 by omega)]
          simp only [cond_true, show (true == false) = false from rfl, cond_false]
          exact ih
      · rw [decide_eq_false (show ¬ (i : Int) < (b.2.2.2.length : Int) by omega), cond_false, fin (.inr (by omega))]
    · rw [decide_eq_false (show ¬ (i : Int) < (a.2.2.2.length : Int) by omega), cond_false, fin (.inl (by omega))]
theorem tch_len : ∀ (g : Nat) (xs ys : List RoutineState), (tch g xs ys).length ≤ xs.length
  | g, [], _ => by simp [tch]
  | g, _ :: _, [] => by simp [tch]
  | g, x :: xs, y :: ys => by
    rw [tch]
    have := tch_len (g + 1) xs ys
    split <;> simp <;> omega
theorem rest_ok (N : Nat) (hN : 1000 ≤ N) (h15 : F15 N () = some true) (a b : State) : F6 N (a.1, a.2.1, a.2.2.1, a.2.2.2, b.1, b.2.1, b.2.2.1, b.2.2.2) = some true := by
  rw [F6_eq, h15, Option.bind_some]
  obtain ⟨c, h1, h2⟩ := f16_ok N hN a b
  rw [h1, Option.bind_some]
  cases c with
  | false => rfl
  | true =>
    obtain ⟨ha, hb, wa, wb⟩ := h2 rfl
    have pa := okS_whole ha wa
    have pb := okS_whole hb wb
    have e10 := f10_ok N hN a b ha hb
    unfold listR at e10
    rw [if_pos (by rw [wa, wb]; rfl)] at e10
    have e22 := f22_ok N hN (listS a b) (listS_ok hb) (check_list pa pb)
    rw [list_out pa pb] at e22
    rw [Bool.not_true, cond_false, cond_false, e10]
    simp only [Option.bind_some]
    rw [e22, Option.bind_some]
    simp only [show ((0 : Int) != 0) = false from rfl, cond_false]
    have hl := tch_len 0 a.2.2.2 b.2.2.2
    have l1 := pa.1
    have l2 := pb.1
    have key := loop6 N hN a b ha.2 l1 l2 (tch 0 a.2.2.2 b.2.2.2) (by omega) N 0 0 (by omega) (by omega) (by omega) (by simp) (by omega)
    rw [show ((0 : Nat) : Int) = 0 from rfl] at key
    rw [key, Option.bind_some]
    simp only [cond_true, beq_self_eq_true]
theorem rest_law : ∀ x, okL [.int .u8, .int .i64, .int .i64, .sl TRoutineState, .int .u8, .int .i64, .int .i64, .sl TRoutineState] x → F6 6000 x = some true := by
  intro x _
  exact rest_ok 6000 (by omega) alive_ok (x.1, x.2.1, x.2.2.1, x.2.2.2.1) x.2.2.2.2
end Go.Proofs.Ytdefleeofgekkaa
