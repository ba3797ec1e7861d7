/- r43: the reference's Apply and Touched (plain). -/
import Derived.Test.YtdefleeofgekkaaLaw43p
namespace Go.Proofs.Ytdefleeofgekkaa
open Go Go.Eng Go.Sym
attribute [local instance] Classical.propDecidable

def MadeP (q : Int × Int × Int × List RoutineState × Bool) (o : Option State) : Prop :=
  (∀ s', o = some s' → q = (s'.1, s'.2.1, s'.2.2.1, s'.2.2.2, true)) ∧ (o = none → q.2.2.2.2 = false)
theorem made_fin (N : Nat) (hN : 1000 ≤ N) (c : State) (hl : c.2.2.2.length ≤ 900) : ∃ q, (Option.bind (F34 N (c.1, c.2.1, c.2.2.1, c.2.2.2)) fun y => some (c.1, c.2.1, c.2.2.1, c.2.2.2, y)) = some q ∧ MadeP q (chkW c) := by
  have h := f34_any N hN c hl
  have h : F34 N (c.1, c.2.1, c.2.2.1, c.2.2.2) = some (decide (wholeP c)) := h
  rw [h, Option.bind_some]
  refine ⟨_, rfl, fun s' hs => ?_, fun hn => ?_⟩
  · obtain ⟨rfl, hw⟩ := chkW_whole hs
    rw [decide_eq_true hw]
  · unfold chkW at hn
    split at hn
    · cases hn
    · rename_i hw
      exact decide_eq_false hw
theorem made_ok (N : Nat) (hN : 1000 ≤ N) (s : State) (hw : wholeP s) (e : Edit) (he : okE e) (hg : 0 ≤ e.2.1 ∧ 0 ≤ e.2.2.1 ∧ e.2.2.1 ≤ 170) :
    ∃ q, F54 N (s.1, s.2.1, s.2.2.1, s.2.2.2, e.1, e.2.1, e.2.2.1, e.2.2.2.1, e.2.2.2.2.1, e.2.2.2.2.2.1, e.2.2.2.2.2.2.1, e.2.2.2.2.2.2.2.1, e.2.2.2.2.2.2.2.2.1, e.2.2.2.2.2.2.2.2.2.1, e.2.2.2.2.2.2.2.2.2.2) = some q ∧ MadeP q (stepS s e) := by
  obtain ⟨kd, g, n, oc, fl, st, r⟩ := e
  obtain ⟨o, f, t, rs⟩ := s
  have hl16 : rs.length ≤ 16 := hw.1
  have hfr : ∀ r ∈ rs, fairP r := hw.2
  simp only at hg ⊢
  have hrl : r.2.2.1.length ≤ 12 := he.1
  rw [F54_eq, chk_of (room_of (by omega) (by omega))]
  simp only [List.nil_append]
  by_cases k1 : kd = 1
  · subst k1
    simp only [stepS, if_true, show ((1 : Int) == 1) = true from rfl, cond_true]
    exact ⟨_, rfl, fun s' hs => by injection hs with hs; subst hs; rfl, fun h => by cases h⟩
  by_cases k7 : kd = 7
  · subst k7
    simp only [stepS, show ((7 : Int) == 1) = false from rfl, show ((7 : Int) == 7) = true from rfl, cond_true, cond_false, if_true, if_neg k1]
    rw [chk_of (room_of (by omega) (by omega))]
    exact made_fin N hN (o, f, t, rs ++ [r]) (by simp; omega)
  have b1 : (kd == (1 : Int)) = false := by simpa using k1
  have b7 : (kd == (7 : Int)) = false := by simpa using k7
  simp only [stepS, b1, b7, cond_false, if_neg k1, if_neg k7]
  by_cases hgr : g ≥ (rs.length : Int)
  · rw [decide_eq_true hgr, cond_true, List.getElem?_eq_none (show rs.length ≤ g.toNat by omega)]
    exact ⟨_, rfl, ⟨fun s' hs => (by cases hs), fun _ => rfl⟩⟩
  · rw [decide_eq_false hgr, cond_false]
    obtain ⟨m, rfl⟩ : ∃ m : Nat, g = (m : Int) := ⟨g.toNat, by omega⟩
    have hm : m < rs.length := by omega
    simp only [Int.toNat_natCast]
    rw [chk_of (inR_lt hm), List.getElem?_eq_getElem hm]
    simp only [Option.bind_some]
    have hx : fairP rs[m] := hfr _ (List.getElem_mem hm)
    generalize rs[m] = x at hx ⊢
    obtain ⟨x0, x1, xf, xd, xp⟩ := x
    have hxf : xf.length ≤ 170 := hx.1
    by_cases k2 : kd = 2
    · subst k2
      simp only [show ((2 : Int) == 2) = true from rfl, cond_true, if_true]
      rw [List.getElem?_set_self hm, Option.bind_some, List.set_set]
      exact made_fin N hN (o, f, t, rs.set m (r.1, r.2.1, xf, xd, xp)) (by simp; omega)
    have b2 : (kd == (2 : Int)) = false := by simpa using k2
    simp only [b2, cond_false, if_neg k2]
    by_cases k3 : kd = 3
    · subst k3
      simp only [show ((3 : Int) == 3) = true from rfl, cond_true, if_true]
      by_cases hn : (xf.length : Int) < n
      · rw [decide_eq_true (show n > (xf.length : Int) by omega), cond_true, if_pos hn]
        exact ⟨_, rfl, ⟨fun s' hs => (by cases hs), fun _ => rfl⟩⟩
      · rw [wi64_in (by omega), decide_eq_false (show ¬ n > (xf.length : Int) by omega), cond_false, if_neg hn, chk_of (room_of (by omega) (by omega)), chk_of (decide_eq_true (by omega)), chk_of (decide_eq_true (by omega)),
          chk_of (room_of (by simp; omega) (by simp; omega))]
        exact made_fin N hN (o, f, t, rs.set m (x0, x1, r.2.2.1 ++ xf.drop ((xf.length : Int) - n).toNat, xd, xp)) (by simp; omega)
    have b3 : (kd == (3 : Int)) = false := by simpa using k3
    simp only [b3, cond_false, if_neg k3]
    by_cases k4 : kd = 4
    · subst k4
      simp only [show ((4 : Int) == 4) = true from rfl, cond_true, if_true]
      exact made_fin N hN (o, f, t, rs.set m (x0, x1, xf, r.2.2.2.1, xp)) (by simp; omega)
    have b4 : (kd == (4 : Int)) = false := by simpa using k4
    simp only [b4, cond_false, if_neg k4]
    by_cases k5 : kd = 5
    · subst k5
      simp only [show ((5 : Int) == 5) = true from rfl, cond_true, if_true]
      exact made_fin N hN (o, f, t, rs.set m (x0, x1, xf, xd, r.2.2.2.2)) (by simp; omega)
    have b5 : (kd == (5 : Int)) = false := by simpa using k5
    simp only [b5, cond_false, if_neg k5]
    by_cases k6 : kd = 6
    · subst k6
      simp only [show ((6 : Int) == 6) = true from rfl, cond_true, if_true]
      rw [chk_of (by simp), chk_of (decide_eq_true (by omega))]
      exact made_fin N hN (o, f, t, rs.take m) (by simp; omega)
    have b6 : (kd == (6 : Int)) = false := by simpa using k6
    simp only [b6, cond_false, if_neg k6]
    exact made_fin N hN (o, f, t, rs) (by simp; omega)

theorem loop25 (N : Nat) (hN : 1000 ≤ N) (l : List Edit) (hl : l.length ≤ 100) (he : ∀ e ∈ l, okE e) (hg : ∀ e ∈ l, goodP e) : ∀ (k i : Nat) (s : State), i ≤ l.length → l.length - i < k → wholeP s →
    f25.L0_10 N k (l, (i : Int), s.1, s.2.1, s.2.2.1, s.2.2.2, 0, 0, 0) = some (match runE s (l.drop i) with | some s' => .inr (s'.1, s'.2.1, s'.2.2.1, s'.2.2.2, 0, 0, 0) | none => .inl (2, 0, 0, 0))
  | 0, i, s, _, h2, _ => by omega
  | k + 1, i, s, h1, h2, hw => by
    by_cases hi : i < l.length
    · have hm := List.getElem_mem hi
      have hb := (hg _ hm).1
      have hd : l.drop i = l[i] :: l.drop (i + 1) := List.drop_eq_getElem_cons hi
      obtain ⟨q, h3, h4, h5⟩ := made_ok N hN s hw l[i] (he _ hm) ⟨hb.1, hb.2.2.1, hb.2.2.2⟩
      rw [f25.L0_10_succ, lt_dec hi, cond_true, idx_get (List.getElem?_eq_getElem hi), Option.bind_some, h3, Option.bind_some, hd, runE, wi64_succ (by omega)]
      cases hs : stepS s l[i] with
      | none =>
        rw [h5 hs]
        rfl
      | some s' =>
        rw [h4 s' hs]
        simp only [Bool.not_true, cond_false, Option.bind_some]
        exact loop25 N hN l hl he hg k (i + 1) s' hi (by omega) (stepS_whole hw hs)
    · have : i = l.length := by omega
      subst this
      rw [f25.L0_10_succ, ge_dec, cond_false, List.drop_length]
      rfl
theorem f25_ok (N : Nat) (hN : 1000 ≤ N) (s : State) (hs : s.2.2.2.length ≤ 900) (hw : wholeP s) (l : List Edit) (he : ∀ e ∈ l, okE e) :
    F25 N (s.1, s.2.1, s.2.2.1, s.2.2.2, l) = some ((applyR s l).1.1, (applyR s l).1.2.1, (applyR s l).1.2.2.1, (applyR s l).1.2.2.2, (applyR s l).2) := by
  have h34 : F34 N (s.1, s.2.1, s.2.2.1, s.2.2.2) = some (decide (wholeP s)) := f34_any N hN s hs
  rw [F25_eq, h34, Option.bind_some, decide_eq_true hw, Bool.not_true, cond_false, f53_ok N hN l he, Option.bind_some]
  unfold applyR
  by_cases hc : checkS l = 0
  · rw [if_pos hc, hc, show ((0 : Int) != 0) = false from rfl, cond_false]
    have hlen : l.length ≤ 100 := by
      unfold checkS at hc
      split at hc
      · cases hc
      · omega
    have hgood : ∀ e ∈ l, goodP e := by
      unfold checkS at hc
      rw [if_neg (by omega)] at hc
      split at hc
      · assumption
      · cases hc
    have key := loop25 N hN l hlen he hgood N 0 s (by omega) (by omega) hw
    rw [List.drop_zero] at key
    rw [show ((0 : Nat) : Int) = 0 from rfl] at key
    rw [key]
    cases runE s l with
    | none => rfl
    | some s' => rfl
  · rw [if_neg hc, show (checkS l != 0) = true from by simpa using hc, cond_true]
end Go.Proofs.Ytdefleeofgekkaa
