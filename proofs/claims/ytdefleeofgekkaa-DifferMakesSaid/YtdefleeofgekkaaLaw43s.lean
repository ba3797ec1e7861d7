/- r43: DifferMakes (plain). -/
import Derived.Test.YtdefleeofgekkaaLaw43q
namespace Go.Proofs.Ytdefleeofgekkaa
open Go Go.Eng Go.Sym
attribute [local instance] Classical.propDecidable

/- ## Strictly sorted lists -/
theorem strict_ext : ∀ {l m : List Int}, l.Pairwise (· < ·) → m.Pairwise (· < ·) → (∀ z, z ∈ l ↔ z ∈ m) → l = m
  | [], [], _, _, _ => rfl
  | [], y :: ys, _, _, h => by have := (h y).2 (List.mem_cons_self ..); cases this
  | x :: xs, [], _, _, h => by have := (h x).1 (List.mem_cons_self ..); cases this
  | x :: xs, y :: ys, hl, hm, h => by
    rw [List.pairwise_cons] at hl hm
    have hxy : x = y := by
      rcases List.mem_cons.1 ((h x).1 (List.mem_cons_self ..)) with h1 | h1
      · exact h1
      · rcases List.mem_cons.1 ((h y).2 (List.mem_cons_self ..)) with h2 | h2
        · exact h2.symm
        · have := hm.1 x h1; have := hl.1 y h2; omega
    subst hxy
    congr 1
    refine strict_ext hl.2 hm.2 fun z => ⟨fun hz => ?_, fun hz => ?_⟩
    · rcases List.mem_cons.1 ((h z).1 (List.mem_cons_of_mem _ hz)) with h1 | h1
      · have := hl.1 z hz; omega
      · exact h1
    · rcases List.mem_cons.1 ((h z).2 (List.mem_cons_of_mem _ hz)) with h1 | h1
      · have := hm.1 z hz; omega
      · exact h1
theorem kept_mem : ∀ (r : List Int) (x z : Int), (z = x ∨ z ∈ keptAfter x r) ↔ (z = x ∨ z ∈ r)
  | [], x, z => by simp [keptAfter]
  | y :: r, x, z => by
    have ih := kept_mem r y z
    rw [keptAfter]
    by_cases h : y ≠ x
    · rw [if_pos h, List.mem_cons, List.mem_cons, ih]
    · have h : y = x := Classical.byContradiction h
      subst h
      rw [if_neg (by simp), ih, List.mem_cons]
      constructor
      · rintro (h | h)
        · exact .inl h
        · exact .inr (.inr h)
      · rintro (h | h | h)
        · exact .inl h
        · exact .inl h
        · exact .inr h
theorem kept_strict : ∀ (r : List Int) (x : Int), (x :: r).Pairwise (· ≤ ·) → (∀ z ∈ keptAfter x r, x < z) ∧ (keptAfter x r).Pairwise (· < ·)
  | [], x, _ => by simp [keptAfter]
  | y :: r, x, h => by
    rw [List.pairwise_cons] at h
    obtain ⟨h1, h2⟩ := kept_strict r y h.2
    have hxy := h.1 y (List.mem_cons_self ..)
    rw [keptAfter]
    by_cases hn : y ≠ x
    · rw [if_pos hn]
      refine ⟨fun z hz => ?_, List.pairwise_cons.2 ⟨h1, h2⟩⟩
      rcases List.mem_cons.1 hz with rfl | hz
      · omega
      · have := h1 z hz; omega
    · rw [if_neg hn]
      have hn : y = x := Classical.byContradiction hn
      subst hn
      exact ⟨h1, h2⟩
theorem compI_mem (l : List Int) (z : Int) : z ∈ compI l ↔ z ∈ l := by
  cases l with
  | nil => rfl
  | cons x r => rw [compI_kept, List.mem_cons, List.mem_cons, kept_mem]
theorem compI_strict {l : List Int} (h : l.Pairwise (· ≤ ·)) : (compI l).Pairwise (· < ·) := by
  cases l with
  | nil => exact List.Pairwise.nil
  | cons x r =>
    rw [compI_kept]
    obtain ⟨h1, h2⟩ := kept_strict r x h
    exact List.pairwise_cons.2 ⟨h1, h2⟩

/- ## The reference's Touched -/
def TG (g : Int) (e : Edit) : Prop := e.2.1 = g ∧ 2 ≤ e.1 ∧ e.1 ≤ 5
noncomputable def tl (l : List Edit) : Nat → Nat → List Int
  | 0, _ => []
  | n + 1, g => if ∃ e ∈ l, TG (g : Int) e then (g : Int) :: tl l n (g + 1) else tl l n (g + 1)
theorem tl_mem (l : List Edit) : ∀ (n g : Nat) (z : Int), z ∈ tl l n g ↔ ∃ j : Nat, g ≤ j ∧ j < g + n ∧ z = (j : Int) ∧ ∃ e ∈ l, TG (j : Int) e
  | 0, g, z => by simp [tl]; intros; omega
  | n + 1, g, z => by
    have ih := tl_mem l n (g + 1) z
    rw [tl]
    by_cases h : ∃ e ∈ l, TG (g : Int) e
    · rw [if_pos h, List.mem_cons, ih]
      constructor
      · rintro (rfl | ⟨j, h1, h2, h3, h4⟩)
        · exact ⟨g, Nat.le_refl _, by omega, rfl, h⟩
        · exact ⟨j, by omega, by omega, h3, h4⟩
      · rintro ⟨j, h1, h2, h3, h4⟩
        by_cases hj : j = g
        · subst hj; exact .inl h3
        · exact .inr ⟨j, by omega, by omega, h3, h4⟩
    · rw [if_neg h, ih]
      constructor
      · rintro ⟨j, h1, h2, h3, h4⟩
        exact ⟨j, by omega, by omega, h3, h4⟩
      · rintro ⟨j, h1, h2, h3, h4⟩
        by_cases hj : j = g
        · subst hj; exact absurd h4 h
        · exact ⟨j, by omega, by omega, h3, h4⟩
theorem tl_strict (l : List Edit) : ∀ (n g : Nat), (tl l n g).Pairwise (· < ·)
  | 0, _ => List.Pairwise.nil
  | n + 1, g => by
    have ih := tl_strict l n (g + 1)
    rw [tl]
    split
    · refine List.pairwise_cons.2 ⟨fun z hz => ?_, ih⟩
      obtain ⟨j, h1, _, rfl, _⟩ := (tl_mem l n (g + 1) z).1 hz
      omega
    · exact ih
theorem outG_mem : ∀ (l : List Edit) (z : Int), z ∈ outG l ↔ ∃ e ∈ l, TG z e
  | [], z => by simp [outG]
  | e :: l, z => by
    have ih := outG_mem l z
    rw [outG]
    by_cases h : 2 ≤ e.1 ∧ e.1 ≤ 5
    · rw [if_pos h, List.mem_cons, ih]
      constructor
      · rintro (rfl | ⟨e', h1, h2⟩)
        · exact ⟨e, List.mem_cons_self .., rfl, h⟩
        · exact ⟨e', List.mem_cons_of_mem _ h1, h2⟩
      · rintro ⟨e', h1, h2⟩
        rcases List.mem_cons.1 h1 with rfl | h1
        · exact .inl h2.1.symm
        · exact .inr ⟨e', h1, h2⟩
    · rw [if_neg h, ih]
      constructor
      · rintro ⟨e', h1, h2⟩; exact ⟨e', List.mem_cons_of_mem _ h1, h2⟩
      · rintro ⟨e', h1, h2⟩
        rcases List.mem_cons.1 h1 with rfl | h1
        · exact absurd h2.2 h
        · exact ⟨e', h1, h2⟩
theorem touched_eq (l : List Edit) (hg : ∀ e ∈ l, goodP e) : compI (sortI (outG l)) = tl l 16 0 := by
  refine strict_ext (compI_strict (sortI_sorted _)) (tl_strict l 16 0) fun z => ?_
  rw [compI_mem, (sortI_perm _).mem_iff, outG_mem, tl_mem]
  constructor
  · rintro ⟨e, h1, h2⟩
    have hb := (hg e h1).1
    have h0 := h2.1
    obtain ⟨b1, b2, _⟩ := hb
    refine ⟨z.toNat, by omega, by omega, by omega, e, h1, ?_⟩
    rw [show ((z.toNat : Nat) : Int) = z by omega]
    exact h2
  · rintro ⟨j, _, _, rfl, e, h1, h2⟩
    exact ⟨e, h1, h2⟩
theorem loop15 (N : Nat) (l : List Edit) (hl : l.length ≤ 100) (res : List Int) (g : Int) : ∀ (k i : Nat) (b : Bool), i ≤ l.length → l.length - i < k →
    f26.L0_15 N k (l, res, g, b, (i : Int)) = some (l, res, g, b || decide (∃ e ∈ l.drop i, TG g e))
  | 0, i, _, _, h => by omega
  | k + 1, i, b, h1, h2 => by
    by_cases hi : i < l.length
    · have hd : l.drop i = l[i] :: l.drop (i + 1) := List.drop_eq_getElem_cons hi
      rw [f26.L0_15_succ, lt_dec hi, cond_true, hd, wi64_succ (by omega)]
      cases b with
      | true =>
        rw [cond_true, loop15 N l hl res g k (i + 1) true hi (by omega)]
        simp
      | false =>
        rw [cond_false, idx_get (List.getElem?_eq_getElem hi)]
        simp only [Option.bind_some]
        have ex : (∃ e ∈ l[i] :: l.drop (i + 1), TG g e) ↔ TG g l[i] ∨ ∃ e ∈ l.drop (i + 1), TG g e := by
          constructor
          · rintro ⟨e, h3, h4⟩
            rcases List.mem_cons.1 h3 with rfl | h3
            · exact .inl h4
            · exact .inr ⟨e, h3, h4⟩
          · rintro (h | ⟨e, h3, h4⟩)
            · exact ⟨_, List.mem_cons_self .., h⟩
            · exact ⟨e, List.mem_cons_of_mem _ h3, h4⟩
        by_cases g1 : l[i].2.1 = g
        · rw [show (l[i].2.1 == g) = true from by simpa using g1, cond_true]
          by_cases g2 : l[i].1 ≥ 2
          · rw [decide_eq_true g2, cond_true, loop15 N l hl res g k (i + 1) _ hi (by omega)]
            by_cases g3 : l[i].1 ≤ 5
            · rw [decide_eq_true g3, decide_eq_true (ex.2 (.inl ⟨g1, g2, g3⟩))]; rfl
            · rw [decide_eq_false g3, Bool.false_or, Bool.false_or]
              congr 4
              exact decide_eq_decide.2 ⟨fun h => ex.2 (.inr h), fun h => (ex.1 h).elim (fun h => absurd h.2.2 g3) id⟩
          · rw [decide_eq_false g2, cond_false, loop15 N l hl res g k (i + 1) _ hi (by omega), Bool.false_or, Bool.false_or]
            congr 4
            exact decide_eq_decide.2 ⟨fun h => ex.2 (.inr h), fun h => (ex.1 h).elim (fun h => absurd h.2.1 g2) id⟩
        · rw [show (l[i].2.1 == g) = false from by simpa using g1, cond_false, loop15 N l hl res g k (i + 1) _ hi (by omega), Bool.false_or, Bool.false_or]
          congr 4
          exact decide_eq_decide.2 ⟨fun h => ex.2 (.inr h), fun h => (ex.1 h).elim (fun h => absurd h.1 g1) id⟩
    · have : i = l.length := by omega
      subst this
      rw [f26.L0_15_succ, ge_dec, cond_false, List.drop_length]
      simp
theorem loop8 (N : Nat) (hN : 1000 ≤ N) (l : List Edit) (hl : l.length ≤ 100) : ∀ (n g k : Nat) (acc : List Int), g + n = 16 → n < k → acc.length ≤ g → f26.L0_8 N k (l, acc, (g : Int)) = some (acc ++ tl l n g)
  | _, _, 0, _, _, h, _ => by omega
  | 0, g, k + 1, acc, h1, _, _ => by
    rw [f26.L0_8_succ, decide_eq_false (show ¬ (g : Int) < 16 by omega), cond_false]
    simp [tl]
  | n + 1, g, k + 1, acc, h1, h2, h3 => by
    have h15 := loop15 N l hl acc (g : Int) N 0 false (by omega) (by omega)
    rw [show ((0 : Nat) : Int) = 0 from rfl, List.drop_zero, Bool.false_or] at h15
    rw [f26.L0_8_succ, decide_eq_true (show (g : Int) < 16 by omega), cond_true, h15, Option.bind_some, tl]
    simp only
    rw [wi64_succ (by omega)]
    by_cases h : ∃ e ∈ l, TG (g : Int) e
    · rw [decide_eq_true h, cond_true, if_pos h, chk_of (room_of (by omega) (by omega)), loop8 N hN l hl n (g + 1) k _ (by omega) (by omega) (by simp; omega)]
      simp
    · rw [decide_eq_false h, cond_false, if_neg h, loop8 N hN l hl n (g + 1) k acc (by omega) (by omega) (by omega)]
noncomputable def touchR (l : List Edit) : List Int × Int := if checkS l = 0 then (compI (sortI (outG l)), 0) else ([], checkS l)
theorem f22_any (N : Nat) (hN : 1000 ≤ N) (l : List Edit) (he : ∀ e ∈ l, okE e) : F22 N l = some (touchR l) := by
  unfold touchR
  by_cases hc : checkS l = 0
  · rw [if_pos hc, f22_ok N hN l he hc]
  · rw [if_neg hc, F22_eq, f41_ok N hN l he, Option.bind_some, show (checkS l != 0) = true from by simpa using hc, cond_true]
theorem f26_any (N : Nat) (hN : 1000 ≤ N) (l : List Edit) (he : ∀ e ∈ l, okE e) : F26 N l = some (touchR l) := by
  unfold touchR
  rw [F26_eq, f53_ok N hN l he, Option.bind_some]
  by_cases hc : checkS l = 0
  · have hlen : l.length ≤ 100 := by
      unfold checkS at hc
      split at hc
      · cases hc
      · omega
    have hgood : ∀ e ∈ l, goodP e := by
      unfold checkS at hc
      rw [if_neg (by omega)] at hc
      split at hc
      · assumption
      · cases hc
    have key := loop8 N hN l hlen 16 0 N [] rfl (by omega) (by simp)
    rw [show ((0 : Nat) : Int) = 0 from rfl, List.nil_append] at key
    rw [if_pos hc, hc, show ((0 : Int) != 0) = false from rfl, cond_false, key, Option.bind_some, touched_eq l hgood]
  · rw [if_neg hc, show (checkS l != 0) = true from by simpa using hc, cond_true]

/- ## The law -/
noncomputable def applyW (s : State) (l : List Edit) : State × Int := if wholeP s then applyR s l else ((0, 0, 0, []), 4)
theorem f18_any (N : Nat) (hN : 1000 ≤ N) (s : State) (hs : okS s) (l : List Edit) (he : ∀ e ∈ l, okE e) : F18 N (s.1, s.2.1, s.2.2.1, s.2.2.2, l) = some ((applyW s l).1.1, (applyW s l).1.2.1, (applyW s l).1.2.2.1, (applyW s l).1.2.2.2, (applyW s l).2) := by
  unfold applyW
  by_cases hw : wholeP s
  · rw [if_pos hw]; exact f18_ok N hN s hs hw l he
  · have h31 := f31_any N hN s
    rw [if_neg hw, F18_eq, h31, Option.bind_some, decide_eq_false hw, Bool.not_false, cond_true]
theorem f25_any (N : Nat) (hN : 1000 ≤ N) (s : State) (hs : okS s) (l : List Edit) (he : ∀ e ∈ l, okE e) : F25 N (s.1, s.2.1, s.2.2.1, s.2.2.2, l) = some ((applyW s l).1.1, (applyW s l).1.2.1, (applyW s l).1.2.2.1, (applyW s l).1.2.2.2, (applyW s l).2) := by
  have hl : s.2.2.2.length ≤ 900 := by have := hs.1; omega
  unfold applyW
  by_cases hw : wholeP s
  · rw [if_pos hw]; exact f25_ok N hN s hl hw l he
  · have h34 : F34 N (s.1, s.2.1, s.2.2.1, s.2.2.2) = some (decide (wholeP s)) := f34_any N hN s hl
    rw [if_neg hw, F25_eq, h34, Option.bind_some, decide_eq_false hw, Bool.not_false, cond_true]
theorem f17_any (N : Nat) (hN : 1000 ≤ N) (l : List Edit) : ∃ b, F17 N l = some b ∧ (b = false → l.length ≤ 110 ∧ ∀ e ∈ l, okE e) := by
  rw [F17_eq]
  have hn : min l.length 111 ≤ l.length := Nat.min_le_left _ _
  rcases loop_find (l := l) (n := min l.length 111) (a := (.inr l : Bool ⊕ List Edit)) (b := .inl true) (P := okE) (Lf := fun k i => f17.L0_3 N k (l, i)) hn
    (fun k => by
      simp only [f17.L0_3_succ]
      by_cases h : l.length ≤ 111
      · rw [Nat.min_eq_left h, ge_dec, cond_false]
      · rw [Nat.min_eq_right (by omega), decide_eq_true (show ((111 : Nat) : Int) < l.length by omega), cond_true]
        rfl) (fun k i x hi _ hx => by
      obtain ⟨b, h1, h2⟩ := f24_ok N hN x.2.2.2.2.2.2
      simp only [f17.L0_3_succ, lt_dec (show i < l.length by omega), cond_true, decide_eq_true (show (i : Int) ≤ 110 by omega), idx_get hx, Option.bind_some, wi64_succ (show i < 9223372036854775807 by omega)]
      have h1 : F24 N (x.2.2.2.2.2.2.1, x.2.2.2.2.2.2.2.1, x.2.2.2.2.2.2.2.2.1, x.2.2.2.2.2.2.2.2.2.1, x.2.2.2.2.2.2.2.2.2.2) = some b := h1
      rw [h1]
      cases b with
      | true => exact .inl rfl
      | false => exact .inr ⟨h2 rfl, rfl⟩) N (by omega) with h | ⟨h, h2⟩
  · rw [h]; exact ⟨true, rfl, fun h => by cases h⟩
  · rw [h, Option.bind_some]
    simp only
    have fin : (l.length : Int) > 110 → False ∨ True := fun _ => .inr trivial
    by_cases h30 : (l.length : Int) > 30
    · rw [decide_eq_true h30, cond_true]
      by_cases h100 : (l.length : Int) ≤ 100
      · rw [decide_eq_true h100, cond_true]
        exact ⟨true, rfl, fun h => by cases h⟩
      · rw [decide_eq_false h100, cond_false]
        exact ⟨_, rfl, fun hb => by
          have h3 : ¬ (l.length : Int) > 110 := of_decide_eq_false hb
          exact ⟨by omega, all_of_get (l := l) (n := min l.length 111) (by omega) h2⟩⟩
    · rw [decide_eq_false h30, cond_false]
      exact ⟨_, rfl, fun hb => ⟨by omega, all_of_get (l := l) (n := min l.length 111) (by omega) h2⟩⟩
theorem makes_ok (N : Nat) (hN : 1000 ≤ N) (s : State) (x : Edit) (l : List Edit) : F7 N (s.1, s.2.1, s.2.2.1, s.2.2.2, x.1, x.2.1, x.2.2.1, x.2.2.2.1, x.2.2.2.2.1, x.2.2.2.2.2.1, x.2.2.2.2.2.2.1, x.2.2.2.2.2.2.2.1, x.2.2.2.2.2.2.2.2.1, x.2.2.2.2.2.2.2.2.2.1, x.2.2.2.2.2.2.2.2.2.2, l) = some true := by
  rw [F7_eq]
  obtain ⟨b1, h1, h2⟩ := f9_ok N hN s
  have h1 : F9 N (s.1, s.2.1, s.2.2.1, s.2.2.2) = some b1 := h1
  rw [h1, Option.bind_some]
  cases b1 with
  | true => rfl
  | false =>
    have hs := h2 rfl
    obtain ⟨b2, h3, h4⟩ := f24_ok N hN x.2.2.2.2.2.2
    have h3 : F24 N (x.2.2.2.2.2.2.1, x.2.2.2.2.2.2.2.1, x.2.2.2.2.2.2.2.2.1, x.2.2.2.2.2.2.2.2.2.1, x.2.2.2.2.2.2.2.2.2.2) = some b2 := h3
    rw [cond_false, h3, Option.bind_some]
    cases b2 with
    | true => rfl
    | false =>
      have hx : okE x := h4 rfl
      obtain ⟨b3, h5, h6⟩ := f17_any N hN l
      rw [cond_false, h5, Option.bind_some]
      cases b3 with
      | true => rfl
      | false =>
        obtain ⟨hl, he⟩ := h6 rfl
        have e21 := f21_ok N hN x hx
        have e27 := f27_ok N hN x hx
        have e21 : F21 N (x.1, x.2.1, x.2.2.1, x.2.2.2.1, x.2.2.2.2.1, x.2.2.2.2.2.1, x.2.2.2.2.2.2.1, x.2.2.2.2.2.2.2.1, x.2.2.2.2.2.2.2.2.1, x.2.2.2.2.2.2.2.2.2.1, x.2.2.2.2.2.2.2.2.2.2) = some (if goodP x then 0 else 8) := e21
        have e27 : F27 N (x.1, x.2.1, x.2.2.1, x.2.2.2.1, x.2.2.2.2.1, x.2.2.2.2.2.1, x.2.2.2.2.2.2.1, x.2.2.2.2.2.2.2.1, x.2.2.2.2.2.2.2.2.1, x.2.2.2.2.2.2.2.2.2.1, x.2.2.2.2.2.2.2.2.2.2) = some (if goodP x then 0 else 8) := e27
        rw [cond_false, f18_any N hN s hs l he, f25_any N hN s hs l he, f22_any N hN l he, f26_any N hN l he, e21, e27]
        simp only [Option.bind_some, bne_self_eq_false, cond_false]
        have hc : (∀ r ∈ (applyW s l).1.2.2.2, okC r) ∧ wholeP (applyW s l).1 := by
          unfold applyW
          by_cases hw : wholeP s
          · rw [if_pos hw]; exact applyR_C he hs hw
          · rw [if_neg hw]; exact ⟨by simp, by simp [wholeP]⟩
        rw [f19_self N hN _ hc.1 hc.2, Option.bind_some, Bool.not_true, cond_false]
        have hlen : (touchR l).1.length ≤ 900 := by
          unfold touchR
          split
          · have q1 := compI_length (sortI (outG l))
            have q2 := sortI_len (outG l)
            have q3 := outG_len l
            show (compI (sortI (outG l))).length ≤ 900
            omega
          · exact Nat.zero_le _
        generalize touchR l = tt at hlen ⊢
        obtain ⟨t, c⟩ := tt
        simp only at hlen ⊢
        have key := loop_up (n := t.length) (Lf := fun k i => f7.L0_13 N k (t, t, i)) (g := fun _ => some (.inr ())) (fun k => by simp only [f7.L0_13_succ, ge_dec, cond_false]) (fun k i hi ih => by
          simp only [f7.L0_13_succ, lt_dec hi, cond_true, idx_get (List.getElem?_eq_getElem hi), Option.bind_some, bne_self_eq_false, cond_false, wi64_succ (show i < 9223372036854775807 by omega)]
          exact ih) N 0 (by omega) (by omega)
        rw [show ((0 : Nat) : Int) = 0 from rfl] at key
        refine bindE _ key rfl
theorem makes_law : ∀ x, okL [.int .u8, .int .i64, .int .i64, .sl TRoutineState, .int .u8, .int .i64, .int .i64, .int .u8, .int .i64, .int .i64, .int .u8, .int .i64, .sl TFrameState, .sl TDeferState, .sl TPanicState, .sl TEdit] x → F7 6000 x = some true := by
  intro x _
  exact makes_ok 6000 (by omega) (x.1, x.2.1, x.2.2.1, x.2.2.2.1) (x.2.2.2.2.1, x.2.2.2.2.2.1, x.2.2.2.2.2.2.1, x.2.2.2.2.2.2.2.1, x.2.2.2.2.2.2.2.2.1, x.2.2.2.2.2.2.2.2.2.1, x.2.2.2.2.2.2.2.2.2.2.1, x.2.2.2.2.2.2.2.2.2.2.2.1, x.2.2.2.2.2.2.2.2.2.2.2.2.1, x.2.2.2.2.2.2.2.2.2.2.2.2.2.1, x.2.2.2.2.2.2.2.2.2.2.2.2.2.2.1) x.2.2.2.2.2.2.2.2.2.2.2.2.2.2.2
end Go.Proofs.Ytdefleeofgekkaa
