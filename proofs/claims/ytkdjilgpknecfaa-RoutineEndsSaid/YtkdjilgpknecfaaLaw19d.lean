/- The routine layer: who is done stays so. -/
import Derived.Test.YtkdjilgpknecfaaLaw19c
namespace Go.Proofs.Ytkdjilgpknecfaa
open Go Go.Eng Go.Sym

theorem endR_ok {n : Nat} (hn : n < 50) : rok (endR n) := by
  rw [rok_iff]
  simp only [endR, bas]
  omega
theorem vr_end (n : Nat) : vr n (endR n) = true := by simp [vr, endR]

theorem loop7a (N : Nat) (n : Nat) (key : Int) (b : Bool) (y : Routine) : ∀ (r pre : List Routine) (k : Nat) (l m : List Routine), l = pre ++ r → m = l.set n y → l.length ≤ 50 → r.length < k →
    f7.L0_14 N k (l, (n : Int), key, b, m, (pre.length : Int)) = some (.inr ((n : Int), key, b, m))
  | [], pre, k + 1, l, m, hl, hm, hn, _ => by
    rw [f7.L0_14_succ]
    subst hl
    simp
  | x :: r, pre, k + 1, l, m, hl, hm, hn, hk => by
    rw [f7.L0_14_succ]
    have hlen : l.length = pre.length + (r.length + 1) := by subst hl; simp
    have h1 : (pre.length : Int) < (l.length : Int) := by omega
    have e1 : wi64 ((pre.length : Int) + 1) = ((pre ++ [x]).length : Int) := by rw [wi64_in (by omega)]; simp
    have rec_ := loop7a N n key b y r (pre ++ [x]) k l m (by subst hl; simp) hm hn (by simp at hk; omega)
    rw [decide_eq_true h1, cond_true, e1, rec_]
    by_cases hq : (pre.length : Int) = n
    · rw [show ((pre.length : Int) != n) = false from by simp [hq], cond_false]
    · rw [show ((pre.length : Int) != n) = true from by simp [hq], cond_true]
      have hx := getElem?_mid hl
      have hmx : m[pre.length]? = some x := by
        rw [hm, List.getElem?_set, if_neg (by omega)]
        exact hx
      rw [idx_of_get (x := x) (by omega) (by rw [Int.toNat_natCast]; exact hmx), Option.bind_some, idx_mid' hl rfl, Option.bind_some]
      simp

/-- the numbers of those that are ready: they are, and they rise -/
theorem rdy_mem : ∀ (g : Int) (l : List Routine) (e : Int), e ∈ rdy g l → ∃ (i : Nat) (x : Routine), e = g + i ∧ l[i]? = some x ∧ x.1 = 1
  | _, [], _, h => by simp [rdy] at h
  | g, x :: r, e, h => by
    simp only [rdy] at h
    have rec_ := rdy_mem (g + 1) r e
    split at h
    · rename_i h1
      rcases List.mem_cons.1 h with rfl | h
      · exact ⟨0, x, by simp, rfl, h1⟩
      · obtain ⟨i, y, h2, h3, h4⟩ := rec_ h
        exact ⟨i + 1, y, by omega, by simpa using h3, h4⟩
    · obtain ⟨i, y, h2, h3, h4⟩ := rec_ h
      exact ⟨i + 1, y, by omega, by simpa using h3, h4⟩
theorem rdy_rise : ∀ (g : Int) (l : List Routine), (rdy g l).Pairwise (· < ·)
  | _, [] => by simp [rdy]
  | g, x :: r => by
    have rec_ := rdy_rise (g + 1) r
    simp only [rdy]
    split
    · rw [List.pairwise_cons]
      refine ⟨fun e he => ?_, rec_⟩
      obtain ⟨i, _, h, _⟩ := rdy_mem (g + 1) r e he
      omega
    · exact rec_

theorem loop7b (N : Nat) (n : Nat) (b : Bool) (m : List Routine) (R : List Int) (hR : ∀ e ∈ R, ∃ (i : Nat) (x : Routine), e = i ∧ m[i]? = some x ∧ x.1 = 1 ∧ i ≠ n) (hp : R.Pairwise (· < ·)) (hn : R.length ≤ 50) :
    ∀ (rest done : List Int) (k : Nat), R = done ++ rest → rest.length < k → f7.L0_31 N k ((n : Int), b, m, R, (done.length : Int)) = some (.inr b)
  | [], done, k + 1, hl, _ => by
    rw [f7.L0_31_succ]
    subst hl
    simp
  | e :: rest, done, k + 1, hl, hk => by
    rw [f7.L0_31_succ]
    have hlen : R.length = done.length + (rest.length + 1) := by subst hl; simp
    have h1 : (done.length : Int) < (R.length : Int) := by omega
    have e1 : wi64 ((done.length : Int) + 1) = ((done ++ [e]).length : Int) := by rw [wi64_in (by omega)]; simp
    have rec_ := loop7b N n b m R hR hp hn rest (done ++ [e]) k (by subst hl; simp) (by simp at hk; omega)
    obtain ⟨i, x, rfl, hx, hx1, hne⟩ := hR e (by rw [hl]; simp)
    have him := (List.getElem?_eq_some_iff.1 hx).1
    have q1 : ((i : Int) == (n : Int)) = false := by simp; omega
    have q2 : decide ((i : Int) < 0) = false := by simp
    have q3 : decide ((i : Int) ≥ (m.length : Int)) = false := by simp; omega
    have q4 : (x.1 != 1) = false := by simp [hx1]
    rw [decide_eq_true h1, cond_true, idx_mid' hl rfl]
    simp only [Option.bind_some, q1, q2, q3, cond_false, idx_of_get (l := m) (i := (i : Int)) (x := x) (by omega) (by rw [Int.toNat_natCast]; exact hx), q4, e1, rec_]
    by_cases hd : (done.length : Int) > 0
    · rw [decide_eq_true hd, cond_true]
      obtain ⟨d, last, rfl⟩ : ∃ d last, done = d ++ [last] := by
        rcases List.eq_nil_or_concat done with h | ⟨d, last, h⟩
        · rw [h] at hd; simp at hd
        · exact ⟨d, last, by simpa using h⟩
      have e2 : wi64 (((d ++ [last]).length : Int) - 1) = (d.length : Int) := by
        rw [wi64_in (by omega)]; simp
      have hlast : idx R (d.length : Int) = some last := idx_mid' (pre := d) (x := last) (r := (i : Int) :: rest) (by rw [hl]; simp) rfl
      rw [e2, hlast, Option.bind_some]
      have hlt : last < (i : Int) := by
        rw [hl, List.append_assoc] at hp
        have := (List.pairwise_append.1 hp).2.1
        simp only [List.cons_append, List.nil_append, List.pairwise_cons] at this
        exact this.1 _ List.mem_cons_self
      rw [decide_eq_false (by omega), cond_false]
    · rw [decide_eq_false hd, cond_false]

theorem ends_core (N : Nat) (l m lw R : List Routine) (Rs : List Int) (n key w : Int) (x y : Routine) (alive : F16 N () = some true) (b0 : F14 N l = some 0) (h1 : ¬ n < 0) (h2 : ¬ n ≥ (l.length : Int)) (o : Int) (h3 : ¬ o < 0) (h4 : ¬ o ≥ (l.length : Int))
    (b1 : F22 N (l, n) = some (m, 0)) (b2 : idx l n = some x) (hx : ¬ x.1 = 3) (hm : m.length = l.length) (b3 : F14 N m = some 0) (b4 : idx m n = some y) (hy : y.1 = 3)
    (b5 : f7.L0_14 N N (l, n, key, true, m, 0) = some (.inr (n, key, true, m))) (b6 : F19 N (m, n, key) = some (R, 36)) (b7 : F22 N (m, n) = some (R, 36)) (b8 : F17 N (m, key) = some (lw, w, 0)) (hw : ¬ w = n) (hl : lw.length = m.length)
    (b9 : idx lw n = some y) (b10 : F11 N m = some (Rs, 0)) (b11 : f7.L0_31 N N (n, true, m, Rs, 0) = some (.inr true)) : F7 N (l, n, o, key) = some true := by
  rw [F7_eq, alive, Option.bind_some, b0, Option.bind_some]
  simp only [bne_self_eq_false, cond_false, Bool.not_true, decide_eq_false h1, decide_eq_false h2, decide_eq_false h3, decide_eq_false h4]
  rw [b1, Option.bind_some, b2, Option.bind_some, show (x.1 == 3) = false from by simp [hx], cond_false]
  simp only [bne_self_eq_false, cond_false, hm, b3, Option.bind_some, b4, hy, b5, b6, b7, b8, hl, b9, b10, b11, show (w == n) = false from by simp [hw], beq_self_eq_true, Bool.and_self, Bool.not_true]
theorem ends_ok (N : Nat) (hN : 50 < N) (alive : F16 N () = some true) (l : List Routine) (g o key : Int) (hr : ∀ x ∈ l, rok x) : F7 N (l, g, o, key) = some true := by
  rcases (chkS_cases l).symm with h | ⟨h, h1, h0, _⟩
  · rw [F7_eq, alive, Option.bind_some, f14_ok N hN l hr, Option.bind_some, h]
    rfl
  by_cases hg : g < 0
  · rw [F7_eq, alive, Option.bind_some, f14_ok N hN l hr, Option.bind_some, h, decide_eq_true hg]
    rfl
  by_cases hg2 : g ≥ l.length
  · rw [F7_eq, alive, Option.bind_some, f14_ok N hN l hr, Option.bind_some, h, decide_eq_false hg, decide_eq_true hg2]
    rfl
  by_cases ho : o < 0
  · rw [F7_eq, alive, Option.bind_some, f14_ok N hN l hr, Option.bind_some, h, decide_eq_false hg, decide_eq_false hg2, decide_eq_true ho]
    rfl
  by_cases ho2 : o ≥ l.length
  · rw [F7_eq, alive, Option.bind_some, f14_ok N hN l hr, Option.bind_some, h, decide_eq_false hg, decide_eq_false hg2, decide_eq_false ho, decide_eq_true ho2]
    rfl
  obtain ⟨n, rfl⟩ : ∃ n : Nat, g = n := ⟨g.toNat, by omega⟩
  have hn : n < l.length := by omega
  have hx : l[n]? = some l[n] := List.getElem?_eq_getElem hn
  have hidx : idx l (n : Int) = some l[n] := idx_of_get (by omega) (by rw [Int.toNat_natCast]; exact hx)
  have c1 := f22_at N hN l hr hx h
  by_cases h3 : l[n].1 = 3
  · rw [if_pos h3] at c1
    rw [F7_eq, alive, Option.bind_some, f14_ok N hN l hr, Option.bind_some, h, decide_eq_false hg, decide_eq_false hg2, decide_eq_false ho, decide_eq_false ho2, c1]
    simp only [bne_self_eq_false, cond_false, Bool.not_true, Option.bind_some, hidx, h3, beq_self_eq_true, cond_true]
  rw [if_neg h3] at c1
  have hm := set_rok (n := n) hr (endR_ok (n := n) (by omega))
  have hmc : chkS (l.set n (endR n)) = 0 := chkS_set h (vr_end n)
  have hmx : (l.set n (endR n))[n]? = some (endR n) := by simp [hn]
  generalize hme : l.set n (endR n) = m at *
  have hml : m.length = l.length := by rw [← hme, List.length_set]
  have hmi : idx m (n : Int) = some (endR n) := idx_of_get (by omega) (by rw [Int.toNat_natCast]; exact hmx)
  have e1 : (endR n).1 = 3 := rfl
  have a1 := loop7a N n key true (endR n) l [] N l m rfl hme.symm (by omega) (by omega)
  have a2 := f19_at N hN _ hm key hmx hmc
  have a3 := f22_at N hN _ hm hmx hmc
  have a4 := f17_ok N hN _ key hm
  have a5 := f11_ok N hN _ hm
  have hfi : ¬ fi key m = some n := by
    intro hf
    obtain ⟨_, y, hy, hw⟩ := fi_lt key hf
    rw [hmx] at hy
    injection hy with hy; subst hy
    have := hw.1
    rw [e1] at this
    omega
  have hwho : ¬ who (fi key m) = (n : Int) := by
    cases hf : fi key m with
    | none => simp only [who]; omega
    | some i =>
      rw [hf] at hfi
      simp only [who]
      intro e
      exact hfi (by congr 1; omega)
  have hwi : idx (wokenL key m) (n : Int) = some (endR n) := idx_of_get (by omega) (by rw [Int.toNat_natCast, wokenL_get, hmx, Option.map_some, if_neg hfi])
  have hrl := rdy_length 0 m
  have a6 := loop7b N n true m (rdy 0 m) (fun e he => by
    obtain ⟨i, x, q1, q2, q3⟩ := rdy_mem 0 _ e he
    refine ⟨i, x, by omega, q2, q3, fun hin => ?_⟩
    subst hin
    rw [hmx] at q2
    injection q2 with q2; subst q2
    rw [e1] at q3
    omega) (rdy_rise 0 _) (by omega) (rdy 0 m) [] N rfl (by omega)
  rw [if_neg (by rw [e1]; omega)] at a2
  rw [if_pos e1] at a3
  rw [wakeS, if_pos hmc] at a4
  rw [rdyS, if_pos hmc] at a5
  have c0 := f14_ok N hN l hr
  have c2 := f14_ok N hN m hm
  rw [h] at c0
  rw [hmc] at c2
  exact ends_core N l m (wokenL key m) [] (rdy 0 m) n key (who (fi key m)) l[n] (endR n) alive c0 hg hg2 o ho ho2 c1 hidx h3 hml c2 hmi e1 a1 a2 a3 a4 hwho (wokenL_length key m) hwi a5 a6
theorem ends_law : ∀ x, okL [.sl TRoutine, .int .i64, .int .i64, .int .i64] x → F7 100 x = some true := by
  rintro ⟨l, g, o, key⟩ h
  simp only [okL, unpack, okD_cons, okD_nil, and_true] at h
  exact ends_ok 100 (by omega) alive_ok l g o key h.1.2
end Go.Proofs.Ytkdjilgpknecfaa
