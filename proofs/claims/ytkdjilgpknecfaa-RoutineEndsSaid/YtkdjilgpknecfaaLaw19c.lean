/- The routine layer: blocking, ending. -/
import Derived.Test.YtkdjilgpknecfaaLaw19b
namespace Go.Proofs.Ytkdjilgpknecfaa
open Go Go.Eng Go.Sym

theorem f36_at (N : Nat) (hN : 50 < N) (l : List Routine) (hr : ∀ x ∈ l, rok x) {n : Nat} (hn : n < l.length) (h : chkS l = 0) : F36 N (l, (n : Int)) = some 0 := by
  rw [F36_eq, f13_ok N hN l hr, Option.bind_some, h]
  have h1 : ¬ (n : Int) < 0 := by omega
  have h2 : ¬ (n : Int) ≥ l.length := by omega
  simp [h1, h2]
def blockR (key : Int) (x : Routine) : Routine := (2, x.2.1, x.2.2.1, x.2.2.2.1, x.2.2.2.2.1, key)
theorem f19_at (N : Nat) (hN : 50 < N) (l : List Routine) (hr : ∀ x ∈ l, rok x) {n : Nat} (key : Int) {x : Routine} (hx : l[n]? = some x) (h : chkS l = 0) :
    F19 N (l, (n : Int), key) = some (if x.1 = 1 then (l.set n (blockR key x), 0) else ([], 36)) := by
  obtain ⟨hn, hx'⟩ := List.getElem?_eq_some_iff.1 hx
  rw [F19_eq, f36_at N hN l hr hn h, Option.bind_some]
  simp only [bne_self_eq_false, cond_false]
  rw [idx_of_get (x := x) (by omega) (by simpa using hx), Option.bind_some]
  have hl : l.length ≤ 16 := by rcases chkS_cases l with ⟨_, h1, _⟩ | h1 <;> omega
  by_cases h1 : x.1 = 1
  · rw [show (x.1 != 1) = false from by simp [h1], cond_false, chk_of (room_of (by omega) (by omega)), chk_of (inR_mid hn), Int.toNat_natCast, hx, Option.bind_some, chk_of (inR_mid (by simpa using hn))]
    have e : (l.set n ((2 : Int), x.2))[n]? = some ((2 : Int), x.2) := by simp [hn]
    rw [e, Option.bind_some, if_pos h1, List.set_set]
    rfl
  · rw [show (x.1 != 1) = true from by simp [h1], cond_true, if_neg h1]
def endR (n : Nat) : Routine := (3, 0, bas n, 0, 0, 0)
theorem f22_at (N : Nat) (hN : 50 < N) (l : List Routine) (hr : ∀ x ∈ l, rok x) {n : Nat} {x : Routine} (hx : l[n]? = some x) (h : chkS l = 0) :
    F22 N (l, (n : Int)) = some (if x.1 = 3 then ([], 36) else (l.set n (endR n), 0)) := by
  obtain ⟨hn, hx'⟩ := List.getElem?_eq_some_iff.1 hx
  rw [F22_eq, f36_at N hN l hr hn h, Option.bind_some]
  simp only [bne_self_eq_false, cond_false]
  rw [idx_of_get (x := x) (by omega) (by simpa using hx), Option.bind_some]
  have hl : l.length ≤ 16 := by rcases chkS_cases l with ⟨_, h1, _⟩ | h1 <;> omega
  by_cases h1 : x.1 = 3
  · rw [show (x.1 == 3) = true from by simp [h1], cond_true, if_pos h1]
  · rw [show (x.1 == 3) = false from by simp [h1], cond_false, chk_of (room_of (by omega) (by omega)), f26_ok N (by omega), Option.bind_some, chk_of (inR_mid hn), Int.toNat_natCast, hx, Option.bind_some, if_neg h1]
    rfl

theorem loop24 (N : Nat) : ∀ (r pre : List Routine) (k : Nat) (l : List Routine), l = pre ++ r → l.length ≤ 1000 → r.length < k → f24.L0_6 N k (l, l, (pre.length : Int)) = some (.inr ())
  | [], pre, k + 1, l, hl, hn, _ => by
    rw [f24.L0_6_succ]
    subst hl
    simp
  | x :: r, pre, k + 1, l, hl, hn, hk => by
    rw [f24.L0_6_succ]
    have hlen : l.length = pre.length + (r.length + 1) := by subst hl; simp
    have h1 : (pre.length : Int) < (l.length : Int) := by omega
    rw [decide_eq_true h1, cond_true, idx_mid' hl rfl, Option.bind_some, Option.bind_some]
    have e1 : wi64 ((pre.length : Int) + 1) = ((pre ++ [x]).length : Int) := by rw [wi64_in (by omega)]; simp
    rw [e1]
    simp only [beq_self_eq_true, Bool.and_self, Bool.not_true, cond_false]
    exact loop24 N r (pre ++ [x]) k l (by subst hl; simp) hn (by simp at hk; omega)
theorem f24_same (N : Nat) (l : List Routine) (h : l.length < N) (h' : l.length ≤ 1000) : F24 N (l, l) = some true := by
  rw [F24_eq]
  have := loop24 N l [] N l rfl h' h
  simp only [List.length_nil, Int.ofNat_zero] at this
  simp [this]

/-- the numbers of those that wait -/
def wl (key : Int) : Nat → List Routine → List Int
  | _, [] => []
  | g, x :: r => if waits key x then (g : Int) :: wl key (g + 1) r else wl key (g + 1) r
theorem wl_length (key : Int) : ∀ (g : Nat) (r : List Routine), (wl key g r).length ≤ r.length
  | _, [] => Nat.le_refl _
  | g, x :: r => by
    have := wl_length key (g + 1) r
    unfold wl
    split <;> simp <;> omega
theorem wl_none (key : Int) : ∀ (g : Nat) (l : List Routine), fi key l = none ↔ wl key g l = []
  | _, [] => by simp [fi, wl]
  | g, x :: r => by
    have := wl_none key (g + 1) r
    simp only [fi, wl]
    split
    · simp
    · rw [← this]; simp
theorem wl_some (key : Int) : ∀ (g : Nat) (l : List Routine) (n : Nat), fi key l = some n → wl key g l = ((g + n : Nat) : Int) :: wl key g (wokenL key l)
  | _, [], _, h => by cases h
  | g, x :: r, n, h => by
    simp only [fi] at h
    split at h
    · rename_i hw
      injection h with h; subst h
      have hf : fi key (x :: r) = some 0 := by simp [fi, hw]
      have : ¬ waits key (wakeR x) := fun h => by have := h.1; simp [wakeR] at this
      simp [wl, wokenL, hf, hw, this]
    · rename_i hw
      cases hf : fi key r with
      | none => rw [hf] at h; cases h
      | some m =>
        rw [hf] at h
        injection h with h; subst h
        have hf' : fi key (x :: r) = some (m + 1) := by simp [fi, hw, hf]
        have := wl_some key (g + 1) r m hf
        simp only [wl, hw, if_false, wokenL, hf', List.modify_succ_cons]
        simp only [wokenL, hf] at this
        rw [this]
        congr 2
        omega

theorem loop6a (N : Nat) (key g : Int) (b : Bool) : ∀ (r pre : List Routine) (k : Nat) (l : List Routine) (acc : List Int), l = pre ++ r → l.length ≤ 50 → acc.length ≤ pre.length → r.length < k →
    f6.L0_8 N k (l, g, key, b, acc, (pre.length : Int)) = some (l, g, key, b, acc ++ wl key pre.length r)
  | [], pre, k + 1, l, acc, hl, hn, _, _ => by
    rw [f6.L0_8_succ]
    subst hl
    simp [wl]
  | x :: r, pre, k + 1, l, acc, hl, hn, ha, hk => by
    rw [f6.L0_8_succ]
    have hlen : l.length = pre.length + (r.length + 1) := by subst hl; simp
    have h1 : (pre.length : Int) < (l.length : Int) := by omega
    rw [decide_eq_true h1, cond_true, idx_mid' hl rfl, Option.bind_some, Option.bind_some]
    have e1 : wi64 ((pre.length : Int) + 1) = (pre.length : Int) + 1 := wi64_in (by omega)
    rw [e1]
    have e2 : (((pre ++ [x]).length : Nat) : Int) = (pre.length : Int) + 1 := by simp
    have e3 : (pre ++ [x]).length = pre.length + 1 := by simp
    by_cases hw : waits key x
    · have rec_ := loop6a N key g b r (pre ++ [x]) k l (acc ++ [(pre.length : Int)]) (by subst hl; simp) hn (by simp; omega) (by simp at hk; omega)
      rw [e2, e3] at rec_
      have h2 := hw.1
      have h3 := hw.2
      simp [h2, h3, chk_of (room_of (n := acc.length + 1) (b := 8) (by omega) (by omega)), rec_, wl, hw]
    · have rec_ := loop6a N key g b r (pre ++ [x]) k l acc (by subst hl; simp) hn (by simp; omega) (by simp at hk; omega)
      rw [e2, e3] at rec_
      by_cases h2 : x.1 = 2
      · have h3 : ¬ x.2.2.2.2.2 = key := fun h => hw ⟨h2, h⟩
        simp [Bool.cond_eq_ite, h2, h3, rec_, wl, hw]
      · simp [Bool.cond_eq_ite, h2, rec_, wl, hw]

theorem loop6b (N : Nat) (hN : 50 < N) (key : Int) (b : Bool) (ws : List Int) (hws : ws.length ≤ 50) : ∀ (rest done : List Int) (k : Nat) (l : List Routine), ws = done ++ rest → rest = wl key 0 l → chkS l = 0 → (∀ x ∈ l, rok x) → rest.length < k →
    ∃ l', f6.L0_28 N k (l, key, b, ws, (done.length : Int)) = some (.inr (l', key, b)) ∧ chkS l' = 0 ∧ (∀ x ∈ l', rok x) ∧ fi key l' = none
  | [], done, k + 1, l, hw, hr, hc, hok, _ => by
    refine ⟨l, ?_, hc, hok, (wl_none key 0 l).2 hr.symm⟩
    rw [f6.L0_28_succ]
    subst hw
    simp
  | e :: rest, done, k + 1, l, hw, hr, hc, hok, hk => by
    have hlen : ws.length = done.length + (rest.length + 1) := by subst hw; simp
    have h1 : (done.length : Int) < (ws.length : Int) := by omega
    cases hf : fi key l with
    | none => rw [(wl_none key 0 l).1 hf] at hr; cases hr
    | some n =>
      have hs := wl_some key 0 l n hf
      rw [← hr] at hs
      injection hs with he hrest
      obtain ⟨l', g1, g2⟩ := loop6b N hN key b ws hws rest (done ++ [e]) k (wokenL key l) (by subst hw; simp) hrest (chkS_woken hc) (wokenL_rok hok) (by simp at hk; omega)
      refine ⟨l', ?_, g2⟩
      rw [f6.L0_28_succ, decide_eq_true h1, cond_true, f17_ok N hN l key hok, Option.bind_some]
      have e1 : wi64 ((done.length : Int) + 1) = ((done ++ [e]).length : Int) := by rw [wi64_in (by omega)]; simp
      rw [e1]
      simp only [wakeS, hc, if_true, bne_self_eq_false, cond_false, idx_mid' hw rfl, Option.bind_some, f14_ok N hN _ (wokenL_rok hok), chkS_woken hc, g1]
      have : who (fi key l) = e := by rw [hf, he]; simp [who]
      simp [this]

theorem blockR_ok {key : Int} (hk : -9223372036854775808 ≤ key ∧ key ≤ 9223372036854775807) {x : Routine} (h : rok x) : rok (blockR key x) := by
  rw [rok_iff] at h ⊢
  simp only [blockR]
  omega
theorem set_rok {l : List Routine} {n : Nat} {y : Routine} (h : ∀ x ∈ l, rok x) (hy : rok y) : ∀ x ∈ l.set n y, rok x := by
  intro x hx
  rcases List.mem_or_eq_of_mem_set hx with hx | rfl
  · exact h x hx
  · exact hy
theorem chkS_set {l : List Routine} {n : Nat} {y : Routine} (h : chkS l = 0) (hy : vr n y = true) : chkS (l.set n y) = 0 := by
  rcases chkS_cases l with ⟨_, h1, h0, hv⟩ | h'
  · unfold chkS
    rw [if_pos]
    rw [List.length_set]
    refine ⟨h0, h1, ?_⟩
    rw [vrs_iff] at hv ⊢
    intro i x hi
    rw [List.getElem?_set] at hi
    split at hi
    · rename_i e; subst e
      split at hi
      · injection hi with hi; subst hi; simpa using hy
      · cases hi
    · exact hv i x hi
  · omega
theorem vr_at {l : List Routine} {n : Nat} {x : Routine} (h : chkS l = 0) (hx : l[n]? = some x) : vr n x = true := by
  rcases chkS_cases l with ⟨_, _, _, hv⟩ | h'
  · rw [vrs_iff] at hv
    simpa using hv n x hx
  · omega
theorem vr_block {g key : Int} {x : Routine} (h : vr g x = true) (h1 : x.1 = 1) : vr g (blockR key x) = true := by
  simp only [vr, decide_eq_true_eq] at h ⊢
  rcases h with ⟨h, _⟩ | ⟨_, h⟩
  · omega
  · right
    simpa [blockR] using h
theorem fi_set (key : Int) : ∀ (l : List Routine) (n : Nat) (y : Routine), fi key l = none → n < l.length → waits key y → fi key (l.set n y) = some n
  | [], n, _, _, h, _ => by simp at h
  | x :: r, 0, y, _, _, hy => by simp [fi, hy]
  | x :: r, n + 1, y, h, hn, hy => by
    simp only [fi] at h
    split at h
    · cases h
    · rename_i hw
      have h' : fi key r = none := by cases hf : fi key r with | none => rfl | some m => rw [hf] at h; cases h
      simp [List.set_cons_succ, fi, hw, fi_set key r n y h' (by simpa using hn) hy]

theorem back_ok (l : List Routine) (g : Int) {key : Int} (hk : -9223372036854775808 ≤ key ∧ key ≤ 9223372036854775807) (hr : ∀ x ∈ l, rok x) : F6 100 (l, g, key) = some true := by
  rw [F6_eq, alive_ok, Option.bind_some, f14_ok 100 (by omega) l hr, Option.bind_some]
  rcases (chkS_cases l).symm with h | ⟨h, h1, h0, _⟩
  · simp [h]
  rw [h]
  simp only [bne_self_eq_false, cond_false, Bool.not_true]
  by_cases hg : g < 0
  · simp [hg]
  by_cases hg2 : g ≥ l.length
  · simp [hg2]
  rw [decide_eq_false hg, decide_eq_false hg2, cond_false, cond_false]
  obtain ⟨n, rfl⟩ : ∃ n : Nat, g = n := ⟨g.toNat, by omega⟩
  have hn : n < l.length := by omega
  have hx : l[n]? = some l[n] := List.getElem?_eq_getElem hn
  have ha := loop6a 100 key n true l [] 100 l [] rfl (by omega) (by simp) (by omega)
  simp only [List.length_nil, Int.ofNat_zero, List.nil_append] at ha
  have hwl := wl_length key 0 l
  obtain ⟨l', q1, q2, q3, q4⟩ := loop6b 100 (by omega) key true (wl key 0 l) (by omega) (wl key 0 l) [] 100 l rfl rfl h hr (by omega)
  simp only [List.length_nil, Int.ofNat_zero] at q1
  have q5 := f17_ok 100 (by omega) l' key q3
  have q6 : wokenL key l' = l' := by simp [wokenL, q4]
  have hl' : l'.length ≤ 16 := by rcases chkS_cases l' with ⟨_, h1, _⟩ | h1 <;> omega
  have q7 := f24_same 100 l' (by omega) (by omega)
  rw [ha, Option.bind_some]
  have hidx : idx l (n : Int) = some l[n] := idx_of_get (by omega) (by rw [Int.toNat_natCast]; exact hx)
  simp only [f19_at 100 (by omega) l hr key hx h, Option.bind_some, hidx]
  by_cases hx1 : l[n].1 = 1
  · simp only [hx1, if_true, q1, Option.bind_some, q5, wakeS, q2, q6, q4, who, q7]
    by_cases hw : (wl key 0 l).length = 0
    · have hfi : fi key l = none := (wl_none key 0 l).2 (List.length_eq_zero_iff.1 hw)
      have hv := vr_at h hx
      have hb := f17_ok 100 (by omega) (l.set n (blockR key l[n])) key (set_rok hr (blockR_ok hk (hr _ (List.getElem_mem hn))))
      have hf := fi_set key l n (blockR key l[n]) hfi hn ⟨rfl, rfl⟩
      have hback : (l.set n (blockR key l[n])).modify n wakeR = l := by
        apply List.ext_getElem?
        intro i
        rw [List.getElem?_modify, List.getElem?_set]
        by_cases hi : n = i
        · subst hi
          have hkey : l[n].2.2.2.2.2 = 0 := by
            simp only [vr, decide_eq_true_eq] at hv
            rcases hv with ⟨hv, _⟩ | ⟨hv | hv, _⟩
            · omega
            · omega
            · exact hv.2
          have e : wakeR (blockR key l[n]) = l[n] := by
            generalize l[n] = x at hx1 hkey
            obtain ⟨a, b, c, d, e, f⟩ := x
            simp only at hx1 hkey
            simp [wakeR, blockR, hx1, hkey]
          simp [hn, e]
        · simp [hi]
      simp only [hb, wakeS, chkS_set h (vr_block hv hx1), if_true, wokenL, hf, hback, who, Option.bind_some, f24_same 100 l (by omega) (by omega)]
      simp [hw]
    · have hw' : wl key 0 l ≠ [] := fun e => hw (by rw [e]; rfl)
      simp [Bool.cond_eq_ite, hw']
  · simp only [hx1, if_false, q1, Option.bind_some, q5, wakeS, q2, if_true, q6, q4, who, q7]
    simp [Bool.cond_eq_ite, hx1]
theorem back_law : ∀ x, okL [.sl TRoutine, .int .i64, .int .i64] x → F6 100 x = some true := by
  rintro ⟨l, g, key⟩ h
  simp only [okL, unpack, okD_cons, okD_nil, and_true] at h
  exact back_ok l g h.2.2 h.1.2
end Go.Proofs.Ytkdjilgpknecfaa
