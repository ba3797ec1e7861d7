/- r43: the reference's Check, All, Fair (plain). -/
import Derived.Test.YtdefleeofgekkaaLaw43K
import Derived.ProofKit
namespace Go.Proofs.Ytdefleeofgekkaa
open Go Go.Eng Go.Sym
attribute [local instance] Classical.propDecidable

def tail27 (N : Nat) (x y : Edit) : Option Int :=
  Option.bind (Option.bind (F38 N (x.1, x.2.1, x.2.2.1, x.2.2.2.1, x.2.2.2.2.1, x.2.2.2.2.2.1, x.2.2.2.2.2.2.1, x.2.2.2.2.2.2.2.1, x.2.2.2.2.2.2.2.2.1, x.2.2.2.2.2.2.2.2.2.1, x.2.2.2.2.2.2.2.2.2.2,
    y.1, y.2.1, y.2.2.1, y.2.2.2.1, y.2.2.2.2.1, y.2.2.2.2.2.1, y.2.2.2.2.2.2.1, y.2.2.2.2.2.2.2.1, y.2.2.2.2.2.2.2.2.1, y.2.2.2.2.2.2.2.2.2.1, y.2.2.2.2.2.2.2.2.2.2)) fun y5 =>
      (bif (!y5)
      then some true
      else (bif (decide (x.2.1 < (0 : Int)))
        then some true
        else (bif (decide (x.2.1 ≥ (16 : Int)))
          then some true
          else (bif (decide (x.2.2.1 < (0 : Int)))
            then some true
            else (bif (decide (x.2.2.1 > (170 : Int)))
              then some true
              else (Option.bind (F55 N (x.2.2.2.2.2.2.1, x.2.2.2.2.2.2.2.1, x.2.2.2.2.2.2.2.2.1, x.2.2.2.2.2.2.2.2.2.1, x.2.2.2.2.2.2.2.2.2.2)) fun y6 =>
                some (!y6)))))))) fun y7 =>
    (bif y7
    then some (8 : Int)
    else some (0 : Int))
theorem tail27_ok (N : Nat) (hN : 1000 ≤ N) (x y : Edit) (h : okE x) : tail27 N x y = some (if x = y ∧ bndP x then 0 else 8) := by
  unfold tail27
  rw [f38_ok N hN x y h, Option.bind_some]
  by_cases hxy : x = y
  · rw [decide_eq_true hxy, Bool.not_true, cond_false]
    by_cases b1 : x.2.1 < 0
    · rw [decide_eq_true b1, cond_true, if_neg fun g => absurd b1 (by have := g.2.1; omega)]; rfl
    rw [decide_eq_false b1, cond_false]
    by_cases b2 : x.2.1 ≥ 16
    · rw [decide_eq_true b2, cond_true, if_neg fun g => absurd b2 (by have := g.2.2.1; omega)]; rfl
    rw [decide_eq_false b2, cond_false]
    by_cases b3 : x.2.2.1 < 0
    · rw [decide_eq_true b3, cond_true, if_neg fun g => absurd b3 (by have := g.2.2.2.1; omega)]; rfl
    rw [decide_eq_false b3, cond_false]
    by_cases b4 : x.2.2.1 > 170
    · rw [decide_eq_true b4, cond_true, if_neg fun g => absurd b4 (by have := g.2.2.2.2; omega)]; rfl
    rw [decide_eq_false b4, cond_false]
    have h55 : F55 N (x.2.2.2.2.2.2.1, x.2.2.2.2.2.2.2.1, x.2.2.2.2.2.2.2.2.1, x.2.2.2.2.2.2.2.2.2.1, x.2.2.2.2.2.2.2.2.2.2) = some true := f55_ok N _ h
    rw [h55, if_pos ⟨hxy, by omega, by omega, by omega, by omega⟩]
    rfl
  · rw [decide_eq_false hxy, Bool.not_false, cond_true, if_neg fun g => hxy g.1]
    rfl
theorem good_iff {e y : Edit} (h : resid e = some y) : goodP e ↔ bndP e ∧ zeroP y := by
  unfold goodP
  rw [h]
  constructor
  · rintro ⟨h1, z, hz, h2⟩
    injection hz with hz; subst hz
    exact ⟨h1, h2⟩
  · rintro ⟨h1, h2⟩
    exact ⟨h1, y, rfl, h2⟩
theorem f27_ok (N : Nat) (hN : 1000 ≤ N) (e : Edit) (h : okE e) : F27 N e = some (if goodP e then 0 else 8) := by
  obtain ⟨p0, p1, p2, p3, p4, p5, p6, p7, p8, p9, p10⟩ := e
  have fin : ∀ y : Edit, ((p0, p1, p2, p3, p4, p5, p6, p7, p8, p9, p10) = y ∧ bndP (p0, p1, p2, p3, p4, p5, p6, p7, p8, p9, p10) ↔ goodP (p0, p1, p2, p3, p4, p5, p6, p7, p8, p9, p10)) →
      tail27 N (p0, p1, p2, p3, p4, p5, p6, p7, p8, p9, p10) y = some (if goodP (p0, p1, p2, p3, p4, p5, p6, p7, p8, p9, p10) then 0 else 8) := by
    intro y hy
    rw [tail27_ok N hN _ y h]
    by_cases g : goodP (p0, p1, p2, p3, p4, p5, p6, p7, p8, p9, p10)
    · rw [if_pos g, if_pos (hy.2 g)]
    · rw [if_neg g, if_neg fun q => g (hy.1 q)]
  by_cases k1 : p0 = 1
  · subst k1
    refine Eq.trans (b := tail27 N _ (1, 0, 0, p3, p4, p5, 0, 0, [], [], [])) (by rw [F27_eq]; kernel_rfl) (fin _ ?_)
    rw [good_iff (y := (0, p1, p2, 0, 0, 0, p6, p7, p8, p9, p10)) (by simp [resid]), and_comm]
    refine and_congr_right fun _ => ?_
    simp [zeroP, Prod.ext_iff]
  by_cases k2 : p0 = 2
  · subst k2
    refine Eq.trans (b := tail27 N _ (2, p1, 0, 0, 0, 0, p6, p7, [], [], [])) (by rw [F27_eq]; kernel_rfl) (fin _ ?_)
    rw [good_iff (y := (0, 0, p2, p3, p4, p5, 0, 0, p8, p9, p10)) (by simp [resid]), and_comm]
    refine and_congr_right fun _ => ?_
    simp [zeroP, Prod.ext_iff]
  by_cases k3 : p0 = 3
  · subst k3
    refine Eq.trans (b := tail27 N _ (3, p1, p2, 0, 0, 0, 0, 0, p8, [], [])) (by rw [F27_eq]; kernel_rfl) (fin _ ?_)
    rw [good_iff (y := (0, 0, 0, p3, p4, p5, p6, p7, [], p9, p10)) (by simp [resid]), and_comm]
    refine and_congr_right fun _ => ?_
    simp [zeroP, Prod.ext_iff]
  by_cases k4 : p0 = 4
  · subst k4
    refine Eq.trans (b := tail27 N _ (4, p1, 0, 0, 0, 0, 0, 0, [], p9, [])) (by rw [F27_eq]; kernel_rfl) (fin _ ?_)
    rw [good_iff (y := (0, 0, p2, p3, p4, p5, p6, p7, p8, [], p10)) (by simp [resid]), and_comm]
    refine and_congr_right fun _ => ?_
    simp [zeroP, Prod.ext_iff]
  by_cases k5 : p0 = 5
  · subst k5
    refine Eq.trans (b := tail27 N _ (5, p1, 0, 0, 0, 0, 0, 0, [], [], p10)) (by rw [F27_eq]; kernel_rfl) (fin _ ?_)
    rw [good_iff (y := (0, 0, p2, p3, p4, p5, p6, p7, p8, p9, [])) (by simp [resid]), and_comm]
    refine and_congr_right fun _ => ?_
    simp [zeroP, Prod.ext_iff]
  by_cases k6 : p0 = 6
  · subst k6
    refine Eq.trans (b := tail27 N _ (6, p1, 0, 0, 0, 0, 0, 0, [], [], [])) (by rw [F27_eq]; kernel_rfl) (fin _ ?_)
    rw [good_iff (y := (0, 0, p2, p3, p4, p5, p6, p7, p8, p9, p10)) (by simp [resid]), and_comm]
    refine and_congr_right fun _ => ?_
    simp [zeroP, Prod.ext_iff]
  by_cases k7 : p0 = 7
  · subst k7
    refine Eq.trans (b := tail27 N _ (7, 0, 0, 0, 0, 0, p6, p7, p8, p9, p10)) (by rw [F27_eq]; kernel_rfl) (fin _ ?_)
    rw [good_iff (y := (0, p1, p2, p3, p4, p5, 0, 0, [], [], [])) (by simp [resid]), and_comm]
    refine and_congr_right fun _ => ?_
    simp [zeroP, Prod.ext_iff]
  have b1 : (p0 == (1 : Int)) = false := by simpa using k1
  have b2 : (p0 == (2 : Int)) = false := by simpa using k2
  have b3 : (p0 == (3 : Int)) = false := by simpa using k3
  have b4 : (p0 == (4 : Int)) = false := by simpa using k4
  have b5 : (p0 == (5 : Int)) = false := by simpa using k5
  have b6 : (p0 == (6 : Int)) = false := by simpa using k6
  have b7 : (p0 == (7 : Int)) = false := by simpa using k7
  have hg : ¬ goodP (p0, p1, p2, p3, p4, p5, p6, p7, p8, p9, p10) := by
    rintro ⟨_, y, hy, _⟩
    simp [resid, k1, k2, k3, k4, k5, k6, k7] at hy
  rw [F27_eq, if_neg hg]
  cases decide (p0 ≥ (2 : Int)) with
  | true =>
    rw [cond_true, Option.bind_some]
    cases decide (p0 ≤ (6 : Int)) with
    | true => simp only [cond_true, cond_false, Option.bind_some, b1, b2, b3, b4, b5, b6, b7]
    | false => simp only [cond_true, cond_false, Option.bind_some, b1, b2, b3, b4, b5, b6, b7]
  | false => simp only [cond_false, Option.bind_some, b1, b2, b3, b4, b5, b6, b7]

theorem loop53 (N : Nat) (hN : 1000 ≤ N) (l : List Edit) (hb : l.length ≤ 100) (h : ∀ e ∈ l, okE e) : ∀ k i : Nat, i ≤ l.length → l.length - i < k →
    f53.L0_6 N k (l, (i : Int)) = some (if ∀ r ∈ l.drop i, goodP r then .inr () else .inl 8)
  | 0, i, _, h2 => by omega
  | k + 1, i, h1, h2 => by
    by_cases hi : i < l.length
    · have hd : l.drop i = l[i] :: l.drop (i + 1) := List.drop_eq_getElem_cons hi
      rw [f53.L0_6_succ, lt_dec hi, cond_true, idx_get (List.getElem?_eq_getElem hi), Option.bind_some]
      have := f27_ok N hN l[i] (h _ (List.getElem_mem hi))
      rw [this, Option.bind_some, hd]
      by_cases hf : goodP l[i]
      · rw [if_pos hf, show ((0 : Int) != 0) = false from rfl, cond_false, wi64_succ (by omega), loop53 N hN l hb h k (i + 1) hi (by omega)]
        by_cases hq : ∀ r ∈ l.drop (i + 1), goodP r
        · rw [if_pos hq, if_pos (by simp only [List.mem_cons, forall_eq_or_imp]; exact ⟨hf, hq⟩)]
        · rw [if_neg hq, if_neg fun q => hq fun r hr => q r (List.mem_cons_of_mem _ hr)]
      · rw [if_neg hf, if_neg fun q => hf (q _ (List.mem_cons_self ..))]
        rfl
    · have : i = l.length := by omega
      subst this
      rw [f53.L0_6_succ, ge_dec, cond_false, if_pos (by simp)]
theorem f53_ok (N : Nat) (hN : 1000 ≤ N) (l : List Edit) (h : ∀ e ∈ l, okE e) : F53 N l = some (checkS l) := by
  rw [F53_eq, checkS]
  by_cases h1 : l.length > 100
  · rw [decide_eq_true (show (l.length : Int) > 100 by omega), cond_true, if_pos h1]
  · rw [decide_eq_false (show ¬ (l.length : Int) > 100 by omega), cond_false, if_neg h1]
    have key := loop53 N hN l (by omega) h N 0 (by omega) (by omega)
    rw [show ((0 : Nat) : Int) = 0 from rfl, List.drop_zero] at key
    rw [key, Option.bind_some]
    by_cases hq : ∀ r ∈ l, goodP r
    · rw [if_pos hq, if_pos hq]
    · rw [if_neg hq, if_neg hq]
theorem f55_any (N : Nat) (r : RoutineState) : F55 N r = some (decide (fairP r)) := by
  obtain ⟨p0, p1, fs, ds, ps⟩ := r
  rw [F55_eq]
  by_cases h1 : fs.length ≤ 170
  · rw [decide_eq_true (show (fs.length : Int) ≤ 170 by omega), cond_true]
    by_cases h2 : ds.length ≤ 410
    · rw [decide_eq_true (show (ds.length : Int) ≤ 410 by omega), cond_true]
      congr 1
      apply decide_eq_decide.2
      simp only [fairP]
      omega
    · rw [decide_eq_false (show ¬ (ds.length : Int) ≤ 410 by omega), cond_false, decide_eq_false fun h => h2 h.2.1]
  · rw [decide_eq_false (show ¬ (fs.length : Int) ≤ 170 by omega), cond_false, decide_eq_false fun h => h1 h.1]
theorem f34_any (N : Nat) (hN : 1000 ≤ N) (s : State) (hl : s.2.2.2.length ≤ 900) : F34 N s = some (decide (wholeP s)) := by
  obtain ⟨p0, p1, p2, l⟩ := s
  simp only at hl
  have key := loop_up (n := l.length) (Lf := fun k i => f34.L0_3 N k (i, p0, p1, p2, l)) (g := fun i => some (if ∀ r ∈ l.drop i, fairP r then .inr (p0, p1, p2, l) else .inl false))
    (fun k => by simp only [f34.L0_3_succ, ge_dec, cond_false]; rw [if_pos (by simp)]) (fun k i hi ih => by
      have hd : l.drop i = l[i] :: l.drop (i + 1) := List.drop_eq_getElem_cons hi
      simp only [f34.L0_3_succ, lt_dec hi, cond_true, idx_get (List.getElem?_eq_getElem hi), Option.bind_some, wi64_succ (show i < 9223372036854775807 by omega)]
      have := f55_any N l[i]
      rw [this, Option.bind_some, hd]
      by_cases hf : fairP l[i]
      · rw [decide_eq_true hf, Bool.not_true, cond_false, ih]
        by_cases hq : ∀ r ∈ l.drop (i + 1), fairP r
        · rw [if_pos hq, if_pos (by simp only [List.mem_cons, forall_eq_or_imp]; exact ⟨hf, hq⟩)]
        · rw [if_neg hq, if_neg fun q => hq fun r hr => q r (List.mem_cons_of_mem _ hr)]
      · rw [decide_eq_false hf, Bool.not_false, cond_true, if_neg fun q => hf (q _ (List.mem_cons_self ..))]) N 0 (by omega) (by omega)
  rw [show ((0 : Nat) : Int) = 0 from rfl, List.drop_zero] at key
  rw [F34_eq]
  refine bindE _ key ?_
  by_cases hq : ∀ r ∈ l, fairP r
  · rw [if_pos hq]
    simp only
    congr 1
    apply decide_eq_decide.2
    constructor
    · intro h; exact ⟨by simp only; omega, hq⟩
    · intro h; have := h.1; simp only at this; omega
  · rw [if_neg hq]
    simp only
    rw [decide_eq_false fun h => hq h.2]
end Go.Proofs.Ytdefleeofgekkaa
