/- The plain law, in one text. -/
import Derived.Test.YtedmahccogjemaaGen07n
import Derived.Test.YtedmahccogjemaaPlain
import Derived.Test.YtedmahccogjemaaSymO
namespace Go.Proofs.Ytedmahccogjemaa
open Go Go.Eng Go.Sym
open Go Go.Eng Go.Sym
theorem bif_tt (a b : Bool) : (bif a then some true else some b : Option Bool) = some (a || b) := by cases a <;> rfl
theorem bif_ff (a b : Bool) : (bif a then some b else some false : Option Bool) = some (a && b) := by cases a <;> rfl
theorem bif_ss {α : Type} (c : Bool) (a b : α) : (bif c then some a else some b) = some (bif c then a else b) := by cases c <;> rfl
theorem bind_id {α : Type} (o : Option α) : (Option.bind o fun x => some x) = o := by cases o <;> rfl
theorem bif_l {α : Type} (a b : α) : (bif true then a else b) = a := rfl
theorem bif_r {α : Type} (a b : α) : (bif false then a else b) = b := rfl
/-- what an operand of a kind is: the least, the greatest, whether it is read, whether it is written -/
def U (c : UInt8) : Int × Int × Bool × Bool :=
  if c = 119 then (0, 15, false, true) else if c = 114 then (0, 15, true, false) else if c = 110 then (-9223372036854775808, 9223372036854775807, false, false)
  else if c = 116 then (0, 31, false, false) else if c = 99 then (0, 31, false, false) else if c = 98 then (0, 1, false, false) else if c = 102 then (0, 7, false, false)
  else if c = 105 then (0, 199, false, false) else if c = 103 then (-1, 15, false, true) else if c = 101 then (-1, 15, true, false) else (0, 0, false, false)
def kindOK (c : UInt8) : Bool := [119, 114, 110, 116, 99, 98, 102, 105, 103, 101, 45].contains c
def shp (op : Int) : Option (UInt8 × UInt8 × UInt8) :=
  match F57 0 op with
  | some [a, b, c] => some (a, b, c)
  | _ => none
def opsN (s : Option (UInt8 × UInt8 × UInt8)) : Int :=
  match s with
  | none => -1
  | some (_, b, c) => if c ≠ 45 then 3 else if b ≠ 45 then 2 else 1
theorem ops_cases (p0 : Int) : (1 ≤ p0 ∧ p0 ≤ 34) ∨ ∀ k : Int, 1 ≤ k → k ≤ 34 → (p0 == k) = false := by
  by_cases h : 1 ≤ p0 ∧ p0 ≤ 34
  · exact .inl h
  · exact .inr fun k h1 h2 => by simp; omega
theorem f57_out {N : Nat} {p0 : Int} (ne : ∀ k : Int, 1 ≤ k → k ≤ 34 → (p0 == k) = false) : F57 N p0 = some [] := by
  simp only [F57_eq, ne 1 (by decide) (by decide), ne 2 (by decide) (by decide), ne 3 (by decide) (by decide), ne 4 (by decide) (by decide), ne 5 (by decide) (by decide), ne 6 (by decide) (by decide), ne 7 (by decide) (by decide), ne 8 (by decide) (by decide), ne 9 (by decide) (by decide), ne 10 (by decide) (by decide), ne 11 (by decide) (by decide), ne 12 (by decide) (by decide), ne 13 (by decide) (by decide), ne 14 (by decide) (by decide), ne 15 (by decide) (by decide), ne 16 (by decide) (by decide), ne 17 (by decide) (by decide), ne 18 (by decide) (by decide), ne 19 (by decide) (by decide), ne 20 (by decide) (by decide), ne 21 (by decide) (by decide), ne 22 (by decide) (by decide), ne 23 (by decide) (by decide), ne 24 (by decide) (by decide), ne 25 (by decide) (by decide), ne 26 (by decide) (by decide), ne 27 (by decide) (by decide), ne 28 (by decide) (by decide), ne 29 (by decide) (by decide), ne 30 (by decide) (by decide), ne 31 (by decide) (by decide), ne 32 (by decide) (by decide), ne 33 (by decide) (by decide), ne 34 (by decide) (by decide), bif_r, bif_tt, Bool.or_false, Option.bind_some]
theorem f55_out {N : Nat} {p0 : Int} (ne : ∀ k : Int, 1 ≤ k → k ≤ 34 → (p0 == k) = false) : F55 N p0 = some ((0 : Int), (0 : Int), false, false, (0 : Int), (0 : Int), false, false, (0 : Int), (0 : Int), false, false, (-1 : Int)) := by
  simp only [F55_eq, ne 1 (by decide) (by decide), ne 2 (by decide) (by decide), ne 3 (by decide) (by decide), ne 4 (by decide) (by decide), ne 5 (by decide) (by decide), ne 6 (by decide) (by decide), ne 7 (by decide) (by decide), ne 8 (by decide) (by decide), ne 9 (by decide) (by decide), ne 10 (by decide) (by decide), ne 11 (by decide) (by decide), ne 12 (by decide) (by decide), ne 13 (by decide) (by decide), ne 14 (by decide) (by decide), ne 15 (by decide) (by decide), ne 16 (by decide) (by decide), ne 17 (by decide) (by decide), ne 18 (by decide) (by decide), ne 19 (by decide) (by decide), ne 20 (by decide) (by decide), ne 21 (by decide) (by decide), ne 22 (by decide) (by decide), ne 23 (by decide) (by decide), ne 24 (by decide) (by decide), ne 25 (by decide) (by decide), ne 26 (by decide) (by decide), ne 27 (by decide) (by decide), ne 28 (by decide) (by decide), ne 29 (by decide) (by decide), ne 30 (by decide) (by decide), ne 31 (by decide) (by decide), ne 32 (by decide) (by decide), ne 33 (by decide) (by decide), ne 34 (by decide) (by decide), bif_r, bif_tt, Bool.or_false, Option.bind_some]
theorem shp_out {p0 : Int} (ne : ∀ k : Int, 1 ≤ k → k ≤ 34 → (p0 == k) = false) : shp p0 = none := by
  rw [shp, f57_out ne]
theorem f57_shp (N : Nat) (p0 : Int) : F57 N p0 = some (match shp p0 with
    | some (a, b, c) => [a, b, c]
    | none => []) := by
  rcases ops_cases p0 with h | ne
  · have : p0 = 1 ∨ p0 = 2 ∨ p0 = 3 ∨ p0 = 4 ∨ p0 = 5 ∨ p0 = 6 ∨ p0 = 7 ∨ p0 = 8 ∨ p0 = 9 ∨ p0 = 10 ∨ p0 = 11 ∨ p0 = 12 ∨ p0 = 13 ∨ p0 = 14 ∨ p0 = 15 ∨ p0 = 16 ∨ p0 = 17 ∨ p0 = 18 ∨ p0 = 19 ∨ p0 = 20 ∨ p0 = 21 ∨ p0 = 22 ∨ p0 = 23 ∨ p0 = 24 ∨ p0 = 25 ∨ p0 = 26 ∨ p0 = 27 ∨ p0 = 28 ∨ p0 = 29 ∨ p0 = 30 ∨ p0 = 31 ∨ p0 = 32 ∨ p0 = 33 ∨ p0 = 34 := by omega
    rcases this with rfl | rfl | rfl | rfl | rfl | rfl | rfl | rfl | rfl | rfl | rfl | rfl | rfl | rfl | rfl | rfl | rfl | rfl | rfl | rfl | rfl | rfl | rfl | rfl | rfl | rfl | rfl | rfl | rfl | rfl | rfl | rfl | rfl | rfl <;> (simp only [shp, F57_eq]; rfl)
  · rw [f57_out ne, shp_out ne]
theorem shp_ok {p0 : Int} {a b c : UInt8} (h : shp p0 = some (a, b, c)) : kindOK a = true ∧ kindOK b = true ∧ kindOK c = true := by
  rcases ops_cases p0 with h' | ne
  · have : p0 = 1 ∨ p0 = 2 ∨ p0 = 3 ∨ p0 = 4 ∨ p0 = 5 ∨ p0 = 6 ∨ p0 = 7 ∨ p0 = 8 ∨ p0 = 9 ∨ p0 = 10 ∨ p0 = 11 ∨ p0 = 12 ∨ p0 = 13 ∨ p0 = 14 ∨ p0 = 15 ∨ p0 = 16 ∨ p0 = 17 ∨ p0 = 18 ∨ p0 = 19 ∨ p0 = 20 ∨ p0 = 21 ∨ p0 = 22 ∨ p0 = 23 ∨ p0 = 24 ∨ p0 = 25 ∨ p0 = 26 ∨ p0 = 27 ∨ p0 = 28 ∨ p0 = 29 ∨ p0 = 30 ∨ p0 = 31 ∨ p0 = 32 ∨ p0 = 33 ∨ p0 = 34 := by omega
    rcases this with rfl | rfl | rfl | rfl | rfl | rfl | rfl | rfl | rfl | rfl | rfl | rfl | rfl | rfl | rfl | rfl | rfl | rfl | rfl | rfl | rfl | rfl | rfl | rfl | rfl | rfl | rfl | rfl | rfl | rfl | rfl | rfl | rfl | rfl <;> (simp only [shp, F57_eq] at h; injection h with h; injection h with h1 h2; injection h2 with h2 h3; subst h1 h2 h3; exact ⟨by decide, by decide, by decide⟩)
  · rw [shp_out ne] at h; cases h
theorem f55_shp (N : Nat) (p0 : Int) : ∃ n, F55 N p0 = some (match shp p0 with
    | some (a, b, c) => ((U a).1, (U a).2.1, (U a).2.2.1, (U a).2.2.2, (U b).1, (U b).2.1, (U b).2.2.1, (U b).2.2.2, (U c).1, (U c).2.1, (U c).2.2.1, (U c).2.2.2, n)
    | none => ((0 : Int), (0 : Int), false, false, (0 : Int), (0 : Int), false, false, (0 : Int), (0 : Int), false, false, (-1 : Int))) ∧ 0 ≤ n := by
  rcases ops_cases p0 with h | ne
  · have : p0 = 1 ∨ p0 = 2 ∨ p0 = 3 ∨ p0 = 4 ∨ p0 = 5 ∨ p0 = 6 ∨ p0 = 7 ∨ p0 = 8 ∨ p0 = 9 ∨ p0 = 10 ∨ p0 = 11 ∨ p0 = 12 ∨ p0 = 13 ∨ p0 = 14 ∨ p0 = 15 ∨ p0 = 16 ∨ p0 = 17 ∨ p0 = 18 ∨ p0 = 19 ∨ p0 = 20 ∨ p0 = 21 ∨ p0 = 22 ∨ p0 = 23 ∨ p0 = 24 ∨ p0 = 25 ∨ p0 = 26 ∨ p0 = 27 ∨ p0 = 28 ∨ p0 = 29 ∨ p0 = 30 ∨ p0 = 31 ∨ p0 = 32 ∨ p0 = 33 ∨ p0 = 34 := by omega
    rcases this with rfl | rfl | rfl | rfl | rfl | rfl | rfl | rfl | rfl | rfl | rfl | rfl | rfl | rfl | rfl | rfl | rfl | rfl | rfl | rfl | rfl | rfl | rfl | rfl | rfl | rfl | rfl | rfl | rfl | rfl | rfl | rfl | rfl | rfl <;> (simp only [shp, F57_eq, F55_eq, F64_eq, F65_eq, F66_eq, F67_eq, Option.bind_some]; exact ⟨_, rfl, by decide⟩)
  · exact ⟨0, by rw [f55_out ne, shp_out ne], by decide⟩
open Go Go.Eng Go.Sym
def i64 (v : Int) : Prop := -9223372036854775808 ≤ v ∧ v ≤ 9223372036854775807
def fits (c : UInt8) (v : Int) : Bool := decide ((U c).1 ≤ v) && decide (v ≤ (U c).2.1)
def chkI (x : Instr) : Bool :=
  match shp x.1 with
  | some (a, b, c) => fits a x.2.1 && (fits b x.2.2.1 && fits c x.2.2.2)
  | none => false
def okI (x : Instr) : Prop := i64 x.2.1 ∧ i64 x.2.2.1 ∧ i64 x.2.2.2
theorem nfits (c : UInt8) (v : Int) : (decide (v < (U c).1) || decide (v > (U c).2.1)) = !fits c v := by
  unfold fits
  by_cases h1 : v < (U c).1
  · simp [h1, show ¬ (U c).1 ≤ v by omega]
  · by_cases h2 : v > (U c).2.1
    · simp [h2, show ¬ v ≤ (U c).2.1 by omega]
    · simp [h1, h2, show (U c).1 ≤ v by omega, show v ≤ (U c).2.1 by omega]
theorem bif_bif {α : Type} (a b : Bool) (x y : α) : (bif a then (bif b then x else y) else y) = bif a && b then x else y := by cases a <;> rfl
theorem bif_swap {α : Type} (a : Bool) (x y : α) : (bif !a then x else y) = bif a then y else x := by cases a <;> rfl
theorem f40_ok (N : Nat) (x : Instr) : F40 N (x.1, x.2.1, x.2.2.1, x.2.2.2) = some (bif chkI x then 0 else 8) := by
  obtain ⟨n, h, hn⟩ := f55_shp N x.1
  rw [F40_eq, h, Option.bind_some]
  unfold chkI
  cases shp x.1 with
  | none => rfl
  | some s =>
    obtain ⟨a, b, c⟩ := s
    simp only [F56_eq, Option.bind_some, show decide (n < 0) = false by simp; omega, bif_r, bif_tt, nfits]
    cases fits a x.2.1 <;> cases fits b x.2.2.1 <;> cases fits c x.2.2.2 <;> rfl
theorem and_lt (v : Int) (lo n : Int) : (decide (v ≥ lo) && decide (v < n)) = (decide (lo ≤ v) && decide (v ≤ n - 1)) := by
  congr 1; simp only [decide_eq_decide]; omega
theorem f59_ok {N : Nat} {c : UInt8} {v : Int} (hc : kindOK c = true) (hv : i64 v) : F59 N ((c.toNat : Int), v) = some (fits c v) := by
  have h : c = 119 ∨ c = 114 ∨ c = 110 ∨ c = 116 ∨ c = 99 ∨ c = 98 ∨ c = 102 ∨ c = 105 ∨ c = 103 ∨ c = 101 ∨ c = 45 := by simpa [kindOK] using hc
  rw [F59_eq]
  simp only [bif_ff, bif_tt, bind_id, Option.bind_some, and_lt]
  rcases h with rfl | rfl | rfl | rfl | rfl | rfl | rfl | rfl | rfl | rfl | rfl
  all_goals first
    | rfl
    | (simp [fits, U, hv.1, hv.2]; done)
    | (show some (v == 0) = some (decide (0 ≤ v) && decide (v ≤ 0))
       by_cases h : v = 0
       · subst h; rfl
       · rw [show (v == 0) = false by simpa using h]
         by_cases h1 : 0 ≤ v
         · simp [show ¬ v ≤ 0 by omega]
         · simp [h1])
theorem f41_ok (N : Nat) {x : Instr} (hx : okI x) : F41 N (x.1, x.2.1, x.2.2.1, x.2.2.2) = some (bif chkI x then 0 else 8) := by
  rw [F41_eq, f57_shp, Option.bind_some, F58_eq, Option.bind_some]
  unfold chkI
  cases h : shp x.1 with
  | none => rfl
  | some s =>
    obtain ⟨a, b, c⟩ := s
    obtain ⟨h1, h2, h3⟩ := shp_ok h
    have e0 : idx [a, b, c] 0 = some a := rfl
    have e1 : idx [a, b, c] 1 = some b := rfl
    have e2 : idx [a, b, c] 2 = some c := rfl
    simp only [show ((([a, b, c] : List UInt8).length : Int) != 3) = false from rfl, bif_r, e0, e1, e2, Option.bind_some, f59_ok h1 hx.1, f59_ok h2 hx.2.1, f59_ok h3 hx.2.2, bif_swap]
    cases fits a x.2.1 <;> cases fits b x.2.2.1 <;> cases fits c x.2.2.2 <;> rfl
/- ## The slots that an instruction reads, and those that it writes -/
def rdB (c : UInt8) (v : Int) : Bool := (U c).2.2.1 && decide (v ≥ 0)
def wrB (c : UInt8) (v : Int) : Bool := (U c).2.2.2 && decide (v ≥ 0)
def one (b : Bool) (v : Int) : List Int := bif b then [v] else []
def slotsI (f : UInt8 → Int → Bool) (x : Instr) : List Int :=
  match shp x.1 with
  | some (a, b, c) => (one (f a x.2.1) x.2.1 ++ one (f b x.2.2.1) x.2.2.1) ++ one (f c x.2.2.2) x.2.2.2
  | none => []
theorem rd_eq {c : UInt8} {v : Int} (hc : kindOK c = true) : (bif ((c.toNat : Int) == 114) then some (decide (v ≥ 0)) else bif ((c.toNat : Int) == 101) then some (decide (v ≥ 0)) else some false : Option Bool) = some (rdB c v) := by
  have h : c = 119 ∨ c = 114 ∨ c = 110 ∨ c = 116 ∨ c = 99 ∨ c = 98 ∨ c = 102 ∨ c = 105 ∨ c = 103 ∨ c = 101 ∨ c = 45 := by simpa [kindOK] using hc
  rcases h with rfl | rfl | rfl | rfl | rfl | rfl | rfl | rfl | rfl | rfl | rfl <;> rfl
theorem wr_eq {c : UInt8} {v : Int} (hc : kindOK c = true) : (bif ((c.toNat : Int) == 119) then some (decide (v ≥ 0)) else bif ((c.toNat : Int) == 103) then some (decide (v ≥ 0)) else some false : Option Bool) = some (wrB c v) := by
  have h : c = 119 ∨ c = 114 ∨ c = 110 ∨ c = 116 ∨ c = 99 ∨ c = 98 ∨ c = 102 ∨ c = 105 ∨ c = 103 ∨ c = 101 ∨ c = 45 := by simpa [kindOK] using hc
  rcases h with rfl | rfl | rfl | rfl | rfl | rfl | rfl | rfl | rfl | rfl | rfl <;> rfl
open Go Go.Eng Go.Sym
theorem len_pos {α : Type} {l : List α} {i : Nat} {x : α} (h : l[i]? = some x) : i < l.length := (List.getElem?_eq_some_iff.1 h).1
def jmpB (n : Int) (x : Instr) : Bool := (x.1 == 22 && decide (x.2.1 ≥ n)) || (x.1 == 23 && decide (x.2.2.1 ≥ n))
def badI (n : Int) (x : Instr) : Bool := !chkI x || jmpB n x
def endB (x : Instr) : Bool := x.1 == (34 : Int) && (x.2.1 == (-1 : Int) && (x.2.2.1 == (0 : Int) && (x.2.2.2 == (0 : Int) && true)))
def lastI (l : List Instr) : Instr := l.getD (l.length - 1) (0, 0, 0, 0)
def validB (l : List Instr) : Bool := decide (1 ≤ l.length) && (decide (l.length ≤ 200) && (!(l.any (badI (l.length : Int))) && endB (lastI l)))
theorem idx_last {l : List Instr} (h : 1 ≤ l.length) (h2 : l.length ≤ 9223372036854775807) : idx l (wi64 ((l.length : Int) - 1)) = some (lastI l) := by
  have e : wi64 ((l.length : Int) - 1) = ((l.length - 1 : Nat) : Int) := by rw [wi64_in (by omega)]; omega
  rw [e]
  refine idx_get ?_
  simp only [lastI, List.getD_eq_getElem?_getD]
  rw [List.getElem?_eq_getElem (by omega)]
  rfl
theorem jmp_bif (x : Instr) (n : Int) : (bif (x.1 == (22 : Int)) then (bif (decide (x.2.1 ≥ n)) then some true else (bif (x.1 == (23 : Int)) then some (decide (x.2.2.1 ≥ n)) else some false)) else (bif (x.1 == (23 : Int)) then some (decide (x.2.2.1 ≥ n)) else some false)) = some (jmpB n x) := by
  unfold jmpB
  cases (x.1 == (22 : Int)) <;> cases (x.1 == (23 : Int)) <;> cases decide (x.2.1 ≥ n) <;> cases decide (x.2.2.1 ≥ n) <;> rfl
theorem f15_ok {N : Nat} {l : List Instr} (hN : 210 < N) (hl : l.length ≤ 9223372036854775807) : F15 N l = some (bif validB l then 0 else 8) := by
  rw [F15_eq]
  unfold validB
  by_cases h1 : 1 ≤ l.length
  · rw [show ((l.length : Int) == 0) = false by simp; intro h; simp [h] at h1, bif_r, decide_eq_true h1, Bool.true_and]
    by_cases h2 : l.length ≤ 200
    · rw [show decide ((l.length : Int) > 200) = false by simp; omega, bif_r, decide_eq_true h2, Bool.true_and, idx_last h1 hl, Option.bind_some]
      show (bif !(endB (lastI l)) then _ else _) = _
      cases endB (lastI l) with
      | false => simp
      | true =>
        have key := loop_any (l := l) (a := (.inr () : Int ⊕ Unit)) (b := .inl 8) (p := badI (l.length : Int)) (Lf := fun k i => f15.L0_7 N k ((l.length : Int), l, (l.length : Int), i))
          (fun k => by simp only [f15.L0_7_succ, ge_dec, bif_r]) (fun k i x hx hi => by
            simp only [f15.L0_7_succ, lt_dec (len_pos hi), bif_l, idx_get hi, Option.bind_some, f40_ok, jmp_bif, wi64_succ (show i < 9223372036854775807 by have := len_pos hi; omega)]
            cases h1 : chkI x <;> cases h2 : jmpB (l.length : Int) x <;> simp [badI, h1, h2]) N (by omega)
        rw [Bool.not_true, bif_r, key, Option.bind_some]
        cases l.any (badI (l.length : Int)) <;> rfl
    · rw [show decide ((l.length : Int) > 200) = true by simp; omega, bif_l, show decide (l.length ≤ 200) = false by simp; omega]; rfl
  · have : l = [] := by cases l with | nil => rfl | cons a r => simp at h1
    subst this; rfl
theorem f16_ok {N : Nat} {l : List Instr} (hN : 210 < N) (hl : l.length ≤ 9223372036854775807) (hx : ∀ x ∈ l, okI x) : F16 N l = some (bif validB l then 0 else 8) := by
  rw [F16_eq]
  unfold validB
  by_cases h1 : 1 ≤ l.length
  · rw [show decide ((l.length : Int) < 1) = false by simp; omega, bif_r, decide_eq_true h1, Bool.true_and, Option.bind_some]
    by_cases h2 : l.length ≤ 200
    · rw [show decide ((l.length : Int) > 200) = false by simp; omega, bif_r, decide_eq_true h2, Bool.true_and]
      have key := loop_any (l := l) (a := (.inr l : Int ⊕ List Instr)) (b := .inl 8) (p := badI (l.length : Int)) (Lf := fun k i => f16.L0_6 N k (l, i))
          (fun k => by simp only [f16.L0_6_succ, ge_dec, bif_r]) (fun k i x hm hi => by
            simp only [f16.L0_6_succ, lt_dec (len_pos hi), bif_l, idx_get hi, Option.bind_some, f41_ok N (hx x hm), jmp_bif, wi64_succ (show i < 9223372036854775807 by have := len_pos hi; omega)]
            cases h1 : chkI x <;> cases h2 : jmpB (l.length : Int) x <;> simp [badI, h1, h2]) N (by omega)
      rw [key, Option.bind_some]
      cases l.any (badI (l.length : Int)) with
      | true => rfl
      | false =>
        simp only [Bool.false_eq_true, if_false, idx_last h1 hl, Option.bind_some]
        show (bif !(endB (lastI l)) then _ else _) = _
        cases endB (lastI l) <;> rfl
    · rw [show decide ((l.length : Int) > 200) = true by simp; omega, bif_l, show decide (l.length ≤ 200) = false by simp; omega]; rfl
  · have : l = [] := by cases l with | nil => rfl | cons a r => simp at h1
    subst this; rfl
/- ## Valid code -/
structure V (l : List Instr) : Prop where
  pos : 1 ≤ l.length
  le : l.length ≤ 200
  chk : ∀ (i : Nat) x, l[i]? = some x → chkI x = true
  jmp : ∀ (i : Nat) x, l[i]? = some x → x.1 = 22 → 0 ≤ x.2.1 ∧ x.2.1 < l.length
  br : ∀ (i : Nat) x, l[i]? = some x → x.1 = 23 → 0 ≤ x.2.2.1 ∧ x.2.2.1 < l.length
  last : ∀ x, l[l.length - 1]? = some x → x.1 = 34
theorem chk22 {x : Instr} (h : chkI x = true) (hx : x.1 = 22) : 0 ≤ x.2.1 := by
  have e : shp 22 = some (105, 45, 45) := by simp only [shp, F57_eq]; rfl
  simp only [chkI, hx, e, fits, Bool.and_eq_true, decide_eq_true_eq] at h
  exact h.1.1
theorem chk23 {x : Instr} (h : chkI x = true) (hx : x.1 = 23) : 0 ≤ x.2.2.1 := by
  have e : shp 23 = some (114, 105, 45) := by simp only [shp, F57_eq]; rfl
  simp only [chkI, hx, e, fits, Bool.and_eq_true, decide_eq_true_eq] at h
  exact h.2.1.1
theorem valid_V {l : List Instr} (h : validB l = true) : V l := by
  simp only [validB, Bool.and_eq_true, decide_eq_true_eq, Bool.not_eq_true', List.any_eq_false] at h
  obtain ⟨h1, h2, h3, h4⟩ := h
  have hb : ∀ (i : Nat) x, l[i]? = some x → chkI x = true ∧ jmpB (l.length : Int) x = false := fun i x hi => by
    have := h3 x (List.mem_of_getElem? hi)
    simp only [badI, Bool.or_eq_true, Bool.not_eq_true', not_or, Bool.not_eq_false, Bool.not_eq_true] at this
    exact this
  refine ⟨h1, h2, fun i x hi => (hb i x hi).1, fun i x hi hx => ⟨chk22 (hb i x hi).1 hx, ?_⟩, fun i x hi hx => ⟨chk23 (hb i x hi).1 hx, ?_⟩, fun x hi => ?_⟩
  · have := (hb i x hi).2
    simp only [jmpB, hx, Bool.or_eq_false_iff] at this
    have := this.1
    simp at this; exact this
  · have := (hb i x hi).2
    simp only [jmpB, hx, Bool.or_eq_false_iff] at this
    have := this.2
    simp at this; exact this
  · have e : lastI l = x := by simp only [lastI, List.getD_eq_getElem?_getD, hi]; rfl
    rw [e] at h4
    simp only [endB, Bool.and_eq_true, beq_iff_eq] at h4
    exact h4.1
def cN (l : List Nat) : List Int := List.map (fun n : Nat => (n : Int)) l
def nx (l : List Instr) (i : Nat) : List Nat :=
  match l[i]? with
  | none => []
  | some x =>
    if x.1 = 34 ∨ x.1 = 28 ∨ x.1 = 30 then []
    else if x.1 = 22 then [x.2.1.toNat]
    else if x.1 = 23 then if x.2.2.1.toNat = i + 1 then [i + 1] else [min (i + 1) x.2.2.1.toNat, max (i + 1) x.2.2.1.toNat]
    else [i + 1]
theorem nx_lt {l : List Instr} (h : V l) {i k : Nat} (hk : k ∈ nx l i) : k < l.length := by
  unfold nx at hk
  split at hk
  · cases hk
  · rename_i x hi
    have hlt := len_pos hi
    have hs : x.1 ≠ 34 → i + 1 < l.length := fun hx => by
      by_cases h1 : i = l.length - 1
      · subst h1; exact absurd (h.last x hi) hx
      · omega
    split at hk
    · cases hk
    · rename_i hne
      simp only [not_or] at hne
      have := hs hne.1
      split at hk
      · rename_i h22
        have := h.jmp i x hi h22
        simp only [List.mem_singleton] at hk
        omega
      · split at hk
        · rename_i h23
          have := h.br i x hi h23
          split at hk
          · simp only [List.mem_singleton] at hk; omega
          · simp only [List.mem_cons, List.not_mem_nil, or_false] at hk; omega
        · simp only [List.mem_singleton] at hk; omega
theorem nx_len (l : List Instr) (i : Nat) : (nx l i).length ≤ 2 := by
  unfold nx
  split
  · simp
  · repeat' split
    all_goals simp
theorem ends_or (x : Instr) : ((x.1 == (34 : Int)) || ((x.1 == (28 : Int)) || (x.1 == (30 : Int)))) = decide (x.1 = 34 ∨ x.1 = 28 ∨ x.1 = 30) := by
  by_cases h1 : x.1 = 34 <;> by_cases h2 : x.1 = 28 <;> by_cases h3 : x.1 = 30 <;> simp [h1, h2, h3]
theorem cast_min (a b : Nat) : min (a : Int) (b : Int) = ((min a b : Nat) : Int) := by omega
theorem cast_max (a b : Nat) : max (a : Int) (b : Int) = ((max a b : Nat) : Int) := by omega
theorem f37_ok {N : Nat} {l : List Instr} (h : V l) {i : Nat} (hi : i < l.length) : F37 N (l, (i : Int)) = some (cN (nx l i)) := by
  have e1 := List.getElem?_eq_getElem hi
  generalize l[i] = x at e1
  have hle := h.le
  have e2 : wi64 ((i : Int) + 1) = ((i + 1 : Nat) : Int) := wi64_succ (by omega)
  rw [F37_eq, idx_get e1]
  simp only [Option.bind_some, bif_tt, e2, ends_or, nx, e1]
  by_cases h1 : x.1 = 34 ∨ x.1 = 28 ∨ x.1 = 30
  · simp [h1, cN]
  · rw [decide_eq_false h1, bif_r, if_neg h1]
    by_cases h2 : x.1 = 22
    · have := h.jmp i x e1 h2
      simp only [h2, beq_self_eq_true, bif_l, if_true, cN, List.map_cons, List.map_nil, Int.toNat_of_nonneg this.1]
    · rw [show (x.1 == (22 : Int)) = false by simpa using h2, bif_r, if_neg h2]
      by_cases h3 : x.1 = 23
      · have := h.br i x e1 h3
        have hq : x.2.2.1 = ((x.2.2.1.toNat : Nat) : Int) := by omega
        simp only [h3, beq_self_eq_true, bif_l, if_true]
        by_cases h4 : x.2.2.1.toNat = i + 1
        · rw [hq, h4]; simp [cN]
        · rw [if_neg h4, show (x.2.2.1 == ((i + 1 : Nat) : Int)) = false by simp; omega, bif_r]
          generalize x.2.2.1.toNat = b at hq
          rw [hq, cast_min, cast_max]
          rfl
      · rw [show (x.1 == (23 : Int)) = false by simpa using h3, bif_r, if_neg h3]
        rfl
theorem sort2 (a b : Int) : compI (sortI [a, b]) = if b = a then [a] else [min a b, max a b] := by
  simp only [sortI, insI]
  by_cases h1 : a ≤ b
  · rw [decide_eq_true h1]
    by_cases h2 : a = b
    · subst h2; simp [compI]
    · rw [if_neg (Ne.symm h2)]
      simp [compI, h2]; omega
  · rw [decide_eq_false h1]
    rw [if_neg (by omega)]
    simp [compI, insI, show ¬ b = a by omega]; omega
theorem f36_ok {N : Nat} {l : List Instr} (h : V l) {i : Nat} (hi : i < l.length) : F36 N (l, (i : Int)) = some (cN (nx l i)) := by
  rw [← f37_ok (N := N) h hi, F36_eq, F37_eq]
  congr 1
  funext x
  congr 1
  funext b
  cases b with
  | true => rfl
  | false =>
    simp only [bif_r]
    congr 1
    congr 1
    have hlen : ∀ q : Int, decide ((sortI [wi64 ((i : Int) + 1), q]).length < 4611686018427387904) = true := fun q => by
      simp only [sortI, insI]
      cases decide (wi64 ((i : Int) + 1) ≤ q) <;> rfl
    rw [hlen]
    simp only [sort2]
    by_cases h4 : x.2.2.1 = wi64 ((i : Int) + 1)
    · rw [if_pos h4, show (x.2.2.1 == wi64 ((i : Int) + 1)) = true by simpa using h4]; rfl
    · rw [if_neg h4, show (x.2.2.1 == wi64 ((i : Int) + 1)) = false by simpa using h4]; rfl
open Go Go.Eng Go.Sym
open Classical
/- ## Loops, by what holds along the way -/
theorem loop_inv {α σ β : Type} {l : List α} {Lf : Nat → Int → σ → Option β} {Inv : Nat → σ → Prop} {g : σ → β} (h0 : ∀ k s, Inv l.length s → Lf (k + 1) (l.length : Int) s = some (g s))
    (hs : ∀ k (i : Nat) x s, l[i]? = some x → Inv i s → ∃ s', Inv (i + 1) s' ∧ Lf (k + 1) (i : Int) s = Lf k ((i + 1 : Nat) : Int) s') {k : Nat} {s : σ} (h : Inv 0 s) (hk : l.length < k) :
    ∃ s', Inv l.length s' ∧ Lf k 0 s = some (g s') := by
  have key : ∀ k (i : Nat) s, i ≤ l.length → l.length - i < k → Inv i s → ∃ s', Inv l.length s' ∧ Lf k (i : Int) s = some (g s') := by
    intro k
    induction k with
    | zero => intro i s _ h; omega
    | succ k ih =>
      intro i s hi hk hI
      by_cases he : i = l.length
      · subst he; exact ⟨s, hI, h0 k s hI⟩
      · obtain ⟨s', h1, h2⟩ := hs k i _ s (List.getElem?_eq_getElem (by omega)) hI
        obtain ⟨s'', h3, h4⟩ := ih (i + 1) s' (by omega) (by omega) h1
        exact ⟨s'', h3, by rw [h2, h4]⟩
  exact key k 0 s (by omega) (by omega) h
/-- with a way out -/
theorem loop_inv_out {α σ β : Type} {l : List α} {Lf : Nat → Int → σ → Option β} {Inv : Nat → σ → Prop} {Out : β → Prop} {g : σ → β} (h0 : ∀ k s, Inv l.length s → Lf (k + 1) (l.length : Int) s = some (g s))
    (hs : ∀ k (i : Nat) x s, l[i]? = some x → Inv i s → (∃ r, Out r ∧ Lf (k + 1) (i : Int) s = some r) ∨ ∃ s', Inv (i + 1) s' ∧ Lf (k + 1) (i : Int) s = Lf k ((i + 1 : Nat) : Int) s') {k : Nat} {s : σ} (h : Inv 0 s) (hk : l.length < k) :
    (∃ r, Out r ∧ Lf k 0 s = some r) ∨ ∃ s', Inv l.length s' ∧ Lf k 0 s = some (g s') := by
  have key : ∀ k (i : Nat) s, i ≤ l.length → l.length - i < k → Inv i s → (∃ r, Out r ∧ Lf k (i : Int) s = some r) ∨ ∃ s', Inv l.length s' ∧ Lf k (i : Int) s = some (g s') := by
    intro k
    induction k with
    | zero => intro i s _ h; omega
    | succ k ih =>
      intro i s hi hk hI
      by_cases he : i = l.length
      · subst he; exact .inr ⟨s, hI, h0 k s hI⟩
      · rcases hs k i _ s (List.getElem?_eq_getElem (by omega)) hI with h | ⟨s', h1, h2⟩
        · exact .inl h
        · rcases ih (i + 1) s' (by omega) (by omega) h1 with ⟨r, h3, h4⟩ | ⟨s'', h3, h4⟩
          · exact .inl ⟨r, h3, by rw [h2, h4]⟩
          · exact .inr ⟨s'', h3, by rw [h2, h4]⟩
  exact key k 0 s (by omega) (by omega) h
/-- work that is put on a pile, and taken off its end -/
theorem pile {σ β : Type} {Lf : Nat → σ → List Nat → Option β} {Inv : σ → List Nat → Prop} {μ : σ → Nat} {g : σ → β} (h0 : ∀ k s, Inv s [] → Lf (k + 1) s [] = some (g s))
    (hs : ∀ k s o i, Inv s (o ++ [i]) → ∃ s' p, Inv s' (o ++ p) ∧ μ s' + p.length ≤ μ s ∧ Lf (k + 1) s (o ++ [i]) = Lf k s' (o ++ p)) :
    ∀ k s o, Inv s o → μ s + o.length < k → ∃ s', Inv s' [] ∧ Lf k s o = some (g s')
  | 0, _, _, _, h => by omega
  | k + 1, s, o, hI, hk => by
    rcases List.eq_nil_or_concat o with rfl | ⟨o', i, ho⟩
    · exact ⟨s, hI, h0 k s hI⟩
    · rw [List.concat_eq_append] at ho; subst ho
      rw [List.length_append, List.length_singleton] at hk
      obtain ⟨s', p, h1, h2, h3⟩ := hs k s o' i hI
      obtain ⟨s'', h4, h5⟩ := pile h0 hs k s' (o' ++ p) h1 (by simp only [List.length_append]; omega)
      exact ⟨s'', h4, by rw [h3, h5]⟩
/-- rounds, as long as something changes -/
theorem rounds {σ β : Type} {Lf : Nat → Bool → σ → Option β} {Inv Done : σ → Prop} {μ : σ → Nat} {g : σ → β} (h0 : ∀ k s, Inv s → Done s → Lf (k + 1) false s = some (g s))
    (hs : ∀ k s, Inv s → ∃ s' c, Inv s' ∧ (c = false → Done s') ∧ (c = true → μ s' < μ s) ∧ Lf (k + 1) true s = Lf k c s') :
    ∀ k s, Inv s → μ s + 1 < k → ∃ s', Inv s' ∧ Done s' ∧ Lf k true s = some (g s')
  | 0, _, _, h => by omega
  | k + 1, s, hI, hk => by
    obtain ⟨s', c, h1, h2, h3, h4⟩ := hs k s hI
    cases c with
    | false =>
      obtain ⟨k', rfl⟩ : ∃ q, k = q + 1 := ⟨k - 1, by omega⟩
      exact ⟨s', h1, h2 rfl, by rw [h4, h0 k' s' h1 (h2 rfl)]⟩
    | true =>
      obtain ⟨s'', h5, h6, h7⟩ := rounds h0 hs k s' h1 (by have := h3 rfl; omega)
      exact ⟨s'', h5, h6, by rw [h4, h7]⟩
/- ## Reached -/
inductive Reach (l : List Instr) : Nat → Prop where
  | zero : Reach l 0
  | step {i k : Nat} : Reach l i → k ∈ nx l i → Reach l k
theorem Reach.lt {l : List Instr} (h : V l) {i : Nat} (hi : Reach l i) : i < l.length := by
  cases hi with
  | zero => exact h.pos
  | step _ hk => exact nx_lt h hk
abbrev T (b : List Bool) (k : Nat) : Prop := b[k]? = some true
theorem T_set {b : List Bool} {i k : Nat} (hi : i < b.length) : T (b.set i true) k ↔ k = i ∨ T b k := by
  unfold T
  rw [List.getElem?_set]
  by_cases h : i = k
  · subst h; simp [hi]
  · rw [if_neg h]; simp [Ne.symm h]
def cntF (b : List Bool) : Nat := b.countP fun x => !x
theorem cntF_set {b : List Bool} {i : Nat} (h : b[i]? = some false) : cntF (b.set i true) + 1 = cntF b := by
  induction b generalizing i with
  | nil => simp at h
  | cons x r ih =>
    cases i with
    | zero => simp at h; subst h; simp [cntF]
    | succ i =>
      simp only [List.getElem?_cons_succ] at h
      have := ih h
      simp only [cntF, List.set_cons_succ, List.countP_cons] at this ⊢
      omega
theorem cntF_le (b : List Bool) : cntF b ≤ b.length := List.countP_le_length
theorem cN_get {l : List Nat} {i : Nat} {x : Int} (h : (cN l)[i]? = some x) : ∃ k, l[i]? = some k ∧ x = (k : Int) := by
  simp only [cN, List.getElem?_map, Option.map_eq_some_iff] at h
  obtain ⟨k, h1, h2⟩ := h
  exact ⟨k, h1, h2.symm⟩
theorem mem_of_get {α : Type} {l : List α} {i : Nat} {x : α} (h : l[i]? = some x) : x ∈ l := List.mem_of_getElem? h
theorem take_succ {α : Type} {l : List α} {i : Nat} {x : α} (h : l[i]? = some x) : l.take (i + 1) = l.take i ++ [x] := by
  rw [List.take_add_one, h]; rfl
theorem set_true_self {b : List Bool} {i : Nat} (h : T b i) : b.set i true = b := set_self h
theorem T_or {b : List Bool} {i : Nat} (h : i < b.length) : b[i]? = some true ∨ b[i]? = some false := by
  rw [List.getElem?_eq_getElem h]
  cases b[i] <;> simp
structure In1 (l : List Instr) (s : List Bool) : Prop where
  len : s.length = l.length
  zero : T s 0
  reach : ∀ i, T s i → Reach l i
structure InP (l : List Instr) (s : List Bool) (o : List Nat) : Prop where
  base : In1 l s
  pile : ∀ k ∈ o, T s k
  shut : ∀ i, T s i → i ∈ o ∨ ∀ k ∈ nx l i, T s k
theorem T.lt {b : List Bool} {k : Nat} (h : T b k) : k < b.length := len_pos h
theorem cN_append (a b : List Nat) : cN (a ++ b) = cN a ++ cN b := by simp [cN]
theorem cN_length (a : List Nat) : (cN a).length = a.length := by simp [cN]
theorem room_small {n b : Nat} (h1 : n ≤ 10000000) (h2 : b ≤ 64) : room n b = true := by
  refine room_of (by omega) ?_
  calc n * b ≤ 10000000 * 64 := Nat.mul_le_mul h1 h2
    _ ≤ _ := by omega
/-- one instruction is taken off -/
theorem reached_inner {N : Nat} {l : List Instr} (hv : V l) (hN : 500 < N) {s : List Bool} {o : List Nat} {i : Nat} (h : InP l s (o ++ [i])) (ho : o.length ≤ 1000000) :
    ∃ s' p, InP l s' (o ++ p) ∧ cntF s' + p.length ≤ cntF s ∧ f13.L1016000_11 N N (l, (i : Int), cN (nx l i), ((cN (nx l i)).length : Int), 0, s, cN o) = some (l, s', cN (o ++ p)) := by
  have hi : T s i := h.pile i (by simp)
  have hri := h.base.reach i hi
  obtain ⟨⟨s', p⟩, hI, he⟩ := loop_inv (l := cN (nx l i)) (g := fun q : List Bool × List Nat => (l, q.1, cN (o ++ q.2)))
    (Inv := fun j q => In1 l q.1 ∧ (∀ k ∈ o ++ q.2, T q.1 k) ∧ (∀ k, T q.1 k → k ∈ o ++ q.2 ∨ k = i ∨ ∀ k' ∈ nx l k, T q.1 k') ∧ (∀ k ∈ (nx l i).take j, T q.1 k) ∧ cntF q.1 + q.2.length ≤ cntF s ∧ T q.1 i)
    (Lf := fun k j q => f13.L1016000_11 N k (l, (i : Int), cN (nx l i), ((cN (nx l i)).length : Int), j, q.1, cN (o ++ q.2)))
    (fun k q _ => by simp only [f13.L1016000_11_succ, ge_dec, bif_r])
    (fun k j x q hx ⟨h1, h2, h3, h4, h5, h6⟩ => by
      obtain ⟨m, hm, rfl⟩ := cN_get hx
      have hml := nx_lt hv (mem_of_get hm)
      have hml' : m < q.1.length := by rw [h1.len]; exact hml
      have hj : j < 9223372036854775807 := by have := len_pos hm; have := nx_len l i; omega
      have e1 := List.getElem?_eq_getElem hml'
      simp only [f13.L1016000_11_succ, lt_dec (len_pos hx), bif_l, idx_get hx, Option.bind_some, inR_lt hml', chk_true, Int.toNat_natCast, wi64_succ hj]
      rcases T_or hml' with hb | hb
      · refine ⟨q, ⟨h1, h2, h3, fun k' hk' => ?_, h5, h6⟩, ?_⟩
        · rw [take_succ hm, List.mem_append, List.mem_singleton] at hk'
          rcases hk' with hk' | rfl
          · exact h4 k' hk'
          · exact hb
        · simp only [hb, Option.bind_some, Bool.not_true, bif_r, set_true_self hb]
      · refine ⟨(q.1.set m true, q.2 ++ [m]), ⟨⟨by simp [h1.len], (T_set hml').2 (.inr h1.zero), fun k' hk' => ?_⟩, fun k' hk' => ?_, fun k' hk' => ?_, fun k' hk' => ?_, ?_, (T_set hml').2 (.inr h6)⟩, ?_⟩
        · rcases (T_set hml').1 hk' with rfl | hk'
          · exact .step hri (mem_of_get hm)
          · exact h1.reach k' hk'
        · rw [← List.append_assoc, List.mem_append, List.mem_singleton] at hk'
          rcases hk' with hk' | rfl
          · exact (T_set hml').2 (.inr (h2 k' hk'))
          · exact (T_set hml').2 (.inl rfl)
        · rcases (T_set hml').1 hk' with rfl | hk'
          · exact .inl (by simp)
          · rcases h3 k' hk' with h | h | h
            · exact .inl (by rw [← List.append_assoc]; exact List.mem_append_left _ h)
            · exact .inr (.inl h)
            · exact .inr (.inr fun k'' hk'' => (T_set hml').2 (.inr (h k'' hk'')))
        · rw [take_succ hm, List.mem_append, List.mem_singleton] at hk'
          rcases hk' with hk' | rfl
          · exact (T_set hml').2 (.inr (h4 k' hk'))
          · exact (T_set hml').2 (.inl rfl)
        · have := cntF_set hb
          simp only [List.length_append, List.length_cons, List.length_nil]
          omega
        · have hlen : q.2.length ≤ s.length := by have := cntF_le s; omega
          rw [h.base.len] at hlen
          have := hv.le
          have hr : room ((cN (o ++ q.2)).length + 1) 8 = true := room_small (by rw [cN_length, List.length_append]; omega) (by omega)
          simp only [hb, Option.bind_some, Bool.not_false, bif_l, hr, chk_true]
          rw [← List.append_assoc, cN_append (o ++ q.2) [m]]
          rfl) (k := N) (s := (s, [])) ⟨h.base, fun k hk => h.pile k (by simp at hk; simp [hk]), fun k hk => by
            rcases h.shut k hk with h' | h'
            · simp at h'; rcases h' with h' | h'
              · exact .inl (by simpa using h')
              · exact .inr (.inl h')
            · exact .inr (.inr h'), fun k hk => by simp at hk, by simp, hi⟩ (by
              rw [cN_length]
              have := nx_len l i
              omega)
  obtain ⟨h1, h2, h3, h4, h5, h6⟩ := hI
  refine ⟨s', p, ⟨h1, h2, fun k hk => ?_⟩, h5, by simpa using he⟩
  rcases h3 k hk with h | rfl | h
  · exact .inl h
  · right
    intro k' hk'
    have : (nx l k).take (cN (nx l k)).length = nx l k := by rw [cN_length]; exact List.take_length
    exact h4 k' (by rw [this]; exact hk')
  · exact .inr h
noncomputable def reachL (l : List Instr) : List Bool := (List.range l.length).map fun k => decide (Reach l k)
theorem reachL_get {l : List Instr} {k : Nat} (h : k < l.length) : (reachL l)[k]? = some (decide (Reach l k)) := by
  simp [reachL, h]
theorem reachL_len (l : List Instr) : (reachL l).length = l.length := by simp [reachL]
theorem reachL_T {l : List Instr} (hv : V l) {k : Nat} : T (reachL l) k ↔ Reach l k := by
  unfold T
  by_cases h : k < l.length
  · rw [reachL_get h]; simp
  · rw [List.getElem?_eq_none (by rw [reachL_len]; omega)]
    constructor
    · intro h'; cases h'
    · intro h'; exact absurd (h'.lt hv) h
theorem reachL_of {l : List Instr} {s : List Bool} (hl : s.length = l.length) (h : ∀ k, T s k ↔ Reach l k) : s = reachL l := by
  apply List.ext_getElem? ; intro k
  by_cases hk : k < l.length
  · rw [reachL_get hk]
    rcases T_or (b := s) (i := k) (by omega) with h1 | h1
    · rw [h1, decide_eq_true ((h k).1 h1)]
    · rw [h1, decide_eq_false fun h2 => by have := (h k).2 h2; unfold T at this; rw [h1] at this; cases this]
  · rw [List.getElem?_eq_none (by omega), List.getElem?_eq_none (by rw [reachL_len]; omega)]
/-- what holds at first, and is shut, is all that is reached -/
theorem In1.all {l : List Instr} {s : List Bool} (h : In1 l s) (hs : ∀ i, T s i → ∀ k ∈ nx l i, T s k) : s = reachL l :=
  reachL_of h.len fun k => ⟨h.reach k, fun hr => by
    induction hr with
    | zero => exact h.zero
    | step _ hk ih => exact hs _ ih _ hk⟩
theorem start_len (n : Nat) : ((List.replicate n false).set 0 true).length = n := by simp
theorem start_T {n : Nat} (h : 1 ≤ n) (k : Nat) : T ((List.replicate n false).set 0 true) k ↔ k = 0 := by
  rw [T_set (by simp; omega)]
  constructor
  · rintro (h | h)
    · exact h
    · simp [T, List.getElem?_replicate] at h
  · exact .inl
theorem start_In1 {l : List Instr} (hv : V l) : In1 l ((List.replicate l.length false).set 0 true) :=
  ⟨by simp, (start_T hv.pos 0).2 rfl, fun i hi => by rw [(start_T hv.pos i).1 hi]; exact .zero⟩
theorem last_wi {n : Nat} (h1 : 1 ≤ n) (h2 : n ≤ 10000000) : wi64 ((n : Int) - 1) = ((n - 1 : Nat) : Int) := by rw [wi64_in (by omega)]; omega
theorem rep_get {α : Type} {n : Nat} (h : 1 ≤ n) (x : α) : (List.replicate n x)[0]? = some x := by simp [List.getElem?_replicate]; omega
theorem reached_pile {N : Nat} {l : List Instr} (hv : V l) (hN : 500 < N) : f13.L1016000_3 N N (l, (List.replicate l.length false).set 0 true, [(0 : Int)]) = some (reachL l) := by
  have hle := hv.le
  obtain ⟨s, hI, he⟩ := pile (Inv := fun s o => InP l s o ∧ cntF s + o.length ≤ 300) (μ := cntF) (g := fun s => s) (Lf := fun k s o => f13.L1016000_3 N k (l, s, cN o))
    (fun k s _ => by rw [show cN [] = [] from rfl, f13.L1016000_3_succ]; rfl)
    (fun k s o i ⟨h, hm⟩ => by
      rw [List.length_append, List.length_singleton] at hm
      have hi : T s i := h.pile i (by simp)
      have hil : i < l.length := by rw [← h.base.len]; exact hi.lt
      obtain ⟨s', p, h1, h2, h3⟩ := reached_inner hv hN h (by omega)
      refine ⟨s', p, ⟨h1, by rw [List.length_append]; omega⟩, h2, ?_⟩
      have hlen : (cN (o ++ [i])).length = o.length + 1 := by simp [cN]
      have e1 : wi64 (((o.length + 1 : Nat) : Int) - 1) = (o.length : Int) := by rw [wi64_in (by omega)]; omega
      have e2 : (cN (o ++ [i]))[o.length]? = some (i : Int) := by simp [cN]
      have e3 : (cN (o ++ [i])).take o.length = cN o := by simp [cN]
      simp only [f13.L1016000_3_succ, hlen, e1, decide_eq_true (show ((o.length + 1 : Nat) : Int) > 0 by omega), bif_l, inR_lt (show o.length < o.length + 1 by omega), chk_true, Int.toNat_natCast, e2, Option.bind_some,
        show decide ((0 : Int) ≤ (o.length : Int)) = true by simp, show decide (o.length ≤ o.length + 1) = true by simp, f36_ok hv hil, e3, h3])
    N ((List.replicate l.length false).set 0 true) [0] ⟨⟨start_In1 hv, fun k hk => by simp at hk; subst hk; exact (start_T hv.pos 0).2 rfl, fun i hi => .inl (by rw [(start_T hv.pos i).1 hi]; simp)⟩, by
      have := cntF_le ((List.replicate l.length false).set 0 true)
      rw [start_len] at this
      simp only [List.length_singleton]; omega⟩ (by
      have := cntF_le ((List.replicate l.length false).set 0 true)
      rw [start_len] at this
      simp only [List.length_singleton]; omega)
  rw [show [(0 : Int)] = cN [0] from rfl, he]
  congr 1
  exact hI.1.base.all fun i hi k hk => by
    rcases hI.1.shut i hi with h | h
    · simp at h
    · exact h k hk
theorem f13_ok {N : Nat} {l : List Instr} (hN : 500 < N) (hl : l.length ≤ 9223372036854775807) : F13 N l = some (if validB l then ((reachL l).set (l.length - 1) true, 0) else ([], 8)) := by
  rw [F13_eq, f15_ok (by omega) hl, Option.bind_some]
  cases h : validB l with
  | false => rfl
  | true =>
    have hv := valid_V h
    have h1 := hv.pos
    have h2 := hv.le
    simp only [bif_l, show ((0 : Int) != 0) = false from rfl, bif_r, if_true, Int.toNat_natCast, show decide ((0 : Int) ≤ (l.length : Int)) = true by simp, chk_true, Nat.le_refl, decide_true, Bool.true_and,
      room_small (show l.length ≤ 10000000 by omega) (show 1 ≤ 64 by omega), List.length_replicate, show inR 0 l.length = true from inR_lt (i := 0) h1, show Int.toNat 0 = 0 from rfl, rep_get h1, Option.bind_some, reached_pile hv hN,
      reachL_len, last_wi h1 (by omega), inR_lt (show l.length - 1 < l.length by omega), reachL_get (show l.length - 1 < l.length by omega)]
/- ## Led -/
theorem led_inner {N : Nat} {l : List Instr} (hv : V l) (hN : 500 < N) {c : Bool} {s : List Bool} {i : Nat} (hil : i < l.length) (h : In1 l s) :
    ∃ s' c', In1 l s' ∧ (c' = false → c = false ∧ s' = s ∧ (T s i → ∀ k ∈ nx l i, T s k)) ∧ cntF s' ≤ cntF s ∧ (c' = true → c = true ∨ cntF s' < cntF s) ∧
      f26.L0_19 N N (l, c, (i : Int), cN (nx l i), 0, s) = some (l, c', (i : Int), s') := by
  have hle := hv.le
  have hlen2 := nx_len l i
  rcases T_or (b := s) (i := i) (by rw [h.len]; exact hil) with hb | hb
  · have hri := h.reach i hb
    obtain ⟨⟨c', s'⟩, hI, he⟩ := loop_inv (l := cN (nx l i)) (g := fun q : Bool × List Bool => (l, q.1, (i : Int), q.2))
      (Inv := fun j q => In1 l q.2 ∧ T q.2 i ∧ (q.1 = false → c = false ∧ q.2 = s ∧ ∀ k ∈ (nx l i).take j, T s k) ∧ cntF q.2 ≤ cntF s ∧ (q.1 = true → c = true ∨ cntF q.2 < cntF s))
      (Lf := fun k j q => f26.L0_19 N k (l, q.1, (i : Int), cN (nx l i), j, q.2))
      (fun k q _ => by simp only [f26.L0_19_succ, ge_dec, bif_r, Option.bind_some])
      (fun k j x q hx ⟨h1, h2, h3, h4, h5⟩ => by
        obtain ⟨m, hm, rfl⟩ := cN_get hx
        have hml := nx_lt hv (mem_of_get hm)
        have hml' : m < q.2.length := by rw [h1.len]; exact hml
        have hj : j < 9223372036854775807 := by have := len_pos hm; omega
        have hil' : i < q.2.length := by rw [h1.len]; exact hil
        have h2' : q.2[i]? = some true := h2
        simp only [f26.L0_19_succ, lt_dec (len_pos hx), bif_l, idx_get hx, Option.bind_some, inR_lt hml', inR_lt hil', chk_true, Int.toNat_natCast, wi64_succ hj, h2']
        rcases T_or hml' with hb | hb
        · refine ⟨q, ⟨h1, h2, fun hc => ?_, h4, h5⟩, by simp only [hb, Option.bind_some, Bool.not_true, bif_r]⟩
          obtain ⟨g1, g2, g3⟩ := h3 hc
          refine ⟨g1, g2, fun k' hk' => ?_⟩
          rw [take_succ hm, List.mem_append, List.mem_singleton] at hk'
          rcases hk' with hk' | rfl
          · exact g3 k' hk'
          · rw [← g2]; exact hb
        · refine ⟨(true, q.2.set m true), ⟨⟨by simp [h1.len], (T_set hml').2 (.inr h1.zero), fun k' hk' => ?_⟩, (T_set hml').2 (.inr h2), (fun hc => by cases hc), ?_, fun _ => .inr ?_⟩, by simp only [hb, Option.bind_some, Bool.not_false, bif_l]⟩
          · rcases (T_set hml').1 hk' with rfl | hk'
            · exact .step hri (mem_of_get hm)
            · exact h1.reach k' hk'
          · have := cntF_set hb; simp only; omega
          · have := cntF_set hb; simp only; omega) (k := N) (s := (c, s)) ⟨h, hb, fun hc => ⟨hc, rfl, fun k hk => by simp at hk⟩, Nat.le_refl _, .inl⟩ (by rw [cN_length]; omega)
    obtain ⟨h1, h2, h3, h4, h5⟩ := hI
    refine ⟨s', c', h1, fun hc => ?_, h4, h5, he⟩
    obtain ⟨g1, g2, g3⟩ := h3 hc
    exact ⟨g1, g2, fun _ k hk => g3 k (by rw [cN_length, List.take_length]; exact hk)⟩
  · refine ⟨s, c, h, fun hc => ⟨hc, rfl, fun h' => by unfold T at h'; rw [hb] at h'; cases h'⟩, Nat.le_refl _, .inl, ?_⟩
    obtain ⟨N', rfl⟩ : ∃ q, N = q + 1 := ⟨N - 1, by omega⟩
    rw [f26.L0_19_succ]
    cases hd : decide ((0 : Int) < ((cN (nx l i)).length : Int)) with
    | false => rfl
    | true => simp only [bif_l, inR_lt (show i < s.length by rw [h.len]; exact hil), chk_true, Int.toNat_natCast, hb, Option.bind_some, bif_r]
theorem led_round {N : Nat} {l : List Instr} (hv : V l) (hN : 500 < N) {s : List Bool} (h : In1 l s) :
    ∃ s' c, In1 l s' ∧ (c = false → ∀ i, T s' i → ∀ k ∈ nx l i, T s' k) ∧ (c = true → cntF s' < cntF s) ∧ f26.L0_12 N N (l, false, 0, s) = some (l, c, s') := by
  have hle := hv.le
  obtain ⟨⟨c', s'⟩, hI, he⟩ := loop_inv (l := l) (g := fun q : Bool × List Bool => (l, q.1, q.2))
    (Inv := fun j q => In1 l q.2 ∧ (q.1 = false → q.2 = s ∧ ∀ i, i < j → T s i → ∀ k ∈ nx l i, T s k) ∧ cntF q.2 ≤ cntF s ∧ (q.1 = true → cntF q.2 < cntF s))
    (Lf := fun k j q => f26.L0_12 N k (l, q.1, j, q.2))
    (fun k q _ => by simp only [f26.L0_12_succ, ge_dec, bif_r])
    (fun k j x q hx ⟨h1, h2, h3, h4⟩ => by
      have hj := len_pos hx
      obtain ⟨s', c', g1, g2, g3, g4, g5⟩ := led_inner hv hN (c := q.1) hj h1
      refine ⟨(c', s'), ⟨g1, fun hc => ?_, by simp only; omega, fun hc => ?_⟩, by
        simp only [f26.L0_12_succ, lt_dec hj, bif_l, f37_ok hv hj, Option.bind_some, g5, wi64_succ (show j < 9223372036854775807 by omega)]⟩
      · obtain ⟨q1, q2, q3⟩ := g2 hc
        obtain ⟨q4, q5⟩ := h2 q1
        simp only
        refine ⟨by rw [q2, q4], fun i hi => ?_⟩
        rw [q4] at q3
        by_cases hij : i = j
        · subst hij; exact q3
        · exact q5 i (by omega)
      · rcases g4 hc with hc | hc
        · have := h4 hc; simp only at *; omega
        · simp only at *; omega) (k := N) (s := (false, s)) ⟨h, fun _ => ⟨rfl, fun i hi => by omega⟩, Nat.le_refl _, fun hc => by cases hc⟩ (by omega)
  obtain ⟨h1, h2, h3, h4⟩ := hI
  refine ⟨s', c', h1, fun hc i hi => ?_, h4, he⟩
  obtain ⟨g1, g2⟩ := h2 hc
  simp only at g1
  rw [g1] at hi ⊢
  exact g2 i (by rw [← h.len]; exact hi.lt) hi
theorem f26_ok {N : Nat} {l : List Instr} (hv : V l) (hN : 500 < N) : F26 N l = some (reachL l) := by
  have h1 := hv.pos
  have h2 := hv.le
  obtain ⟨s, g1, g2, g3⟩ := rounds (Inv := In1 l) (Done := fun s => ∀ i, T s i → ∀ k ∈ nx l i, T s k) (μ := cntF) (g := fun s => s) (Lf := fun k c s => f26.L0_5 N k (l, c, s))
    (fun k s _ _ => by rw [f26.L0_5_succ]; rfl)
    (fun k s h => by
      obtain ⟨s', c, g1, g2, g3, g4⟩ := led_round hv hN h
      exact ⟨s', c, g1, g2, g3, by simp only [f26.L0_5_succ, bif_l, g4, Option.bind_some]⟩) N _ (start_In1 hv) (by
      have := cntF_le ((List.replicate l.length false).set 0 true)
      rw [start_len] at this
      omega)
  rw [F26_eq]
  simp only [Int.toNat_natCast, show decide ((0 : Int) ≤ (l.length : Int)) = true by simp, chk_true, Nat.le_refl, decide_true, Bool.true_and,
      room_small (show l.length ≤ 10000000 by omega) (show 1 ≤ 64 by omega), List.length_replicate, show inR 0 l.length = true from inR_lt (i := 0) h1, show Int.toNat 0 = 0 from rfl, rep_get h1, Option.bind_some, g3]
  rw [g1.all g2]
theorem f14_ok {N : Nat} {l : List Instr} (hN : 500 < N) (hl : l.length ≤ 9223372036854775807) (hx : ∀ x ∈ l, okI x) : F14 N l = some (if validB l then ((reachL l).set (l.length - 1) true, 0) else ([], 8)) := by
  rw [F14_eq, f16_ok (by omega) hl hx, Option.bind_some]
  cases h : validB l with
  | false => rfl
  | true =>
    have hv := valid_V h
    have h1 := hv.pos
    have h2 := hv.le
    simp only [bif_l, show ((0 : Int) != 0) = false from rfl, bif_r, if_true, f26_ok hv hN, Option.bind_some, last_wi h1 (by omega), reachL_len, inR_lt (show l.length - 1 < l.length by omega), chk_true, Int.toNat_natCast,
      reachL_get (show l.length - 1 < l.length by omega)]
open Go Go.Eng Go.Sym
open Classical
theorem ne_len {α β : Type} {l : List α} {m : List β} : ((l.length : Int) != (m.length : Int)) = !decide (l.length = m.length) := by
  by_cases h : l.length = m.length
  · simp [h]
  · simp [h]; omega
theorem f17_ok {N : Nat} {l m : List Int} (hl : l.length < N) (hb : l.length < 9223372036854775807) : F17 N (l, m) = some (decide (l = m)) := by
  rw [F17_eq, ne_len]
  by_cases h : l.length = m.length
  · have key := loop_eq (l := l) (m := m) (a := (.inr () : Bool ⊕ Unit)) (b := .inl false) (Lf := fun k i => f17.L0_6 N k (l, m, i)) h
      (fun k => by simp only [f17.L0_6_succ, ge_dec, bif_r]) (fun k i x y _ _ h1 h2 => by
        simp only [f17.L0_6_succ, lt_dec (len_pos h1), bif_l, idx_get h1, idx_get h2, Option.bind_some, wi64_succ (show i < 9223372036854775807 by have := len_pos h1; omega)]
        by_cases hxy : x = y
        · subst hxy; simp
        · rw [if_neg hxy, show (x != y) = true by simp [bne, hxy]]; rfl) N hl
    rw [decide_eq_true h, Bool.not_true, bif_r, key, Option.bind_some]
    by_cases he : l = m <;> simp [he]
  · rw [decide_eq_false h, decide_eq_false (fun e => h (by rw [e]))]; rfl
theorem f18_ok {N : Nat} {l m : List Bool} (hl : l.length < N) (hb : l.length < 9223372036854775807) : F18 N (l, m) = some (decide (l = m)) := by
  rw [F18_eq, ne_len]
  by_cases h : l.length = m.length
  · have key := loop_eq (l := l) (m := m) (a := (.inr () : Bool ⊕ Unit)) (b := .inl false) (Lf := fun k i => f18.L0_6 N k (l, m, i)) h
      (fun k => by simp only [f18.L0_6_succ, ge_dec, bif_r]) (fun k i x y _ _ h1 h2 => by
        simp only [f18.L0_6_succ, lt_dec (len_pos h1), bif_l, idx_get h1, idx_get h2, Option.bind_some, wi64_succ (show i < 9223372036854775807 by have := len_pos h1; omega)]
        by_cases hxy : x = y
        · subst hxy; simp
        · rw [if_neg hxy, show (!(x == y)) = true by cases x <;> cases y <;> simp_all]; rfl) N hl
    rw [decide_eq_true h, Bool.not_true, bif_r, key, Option.bind_some]
    by_cases he : l = m <;> simp [he]
  · rw [decide_eq_false h, decide_eq_false (fun e => h (by rw [e]))]; rfl
theorem instr_eq (x y : Instr) : (x.1 == y.1 && (x.2.1 == y.2.1 && (x.2.2.1 == y.2.2.1 && (x.2.2.2 == y.2.2.2 && true)))) = decide (x = y) := by
  obtain ⟨a, b, c, d⟩ := x
  obtain ⟨a', b', c', d'⟩ := y
  simp only [Prod.mk.injEq]
  by_cases h1 : a = a' <;> by_cases h2 : b = b' <;> by_cases h3 : c = c' <;> by_cases h4 : d = d' <;> simp [h1, h2, h3, h4]
theorem f19_ok {N : Nat} {l m : List Instr} (hl : l.length < N) (hb : l.length < 9223372036854775807) : F19 N (l, m) = some (decide (l = m)) := by
  rw [F19_eq, ne_len]
  by_cases h : l.length = m.length
  · have key := loop_eq (l := l) (m := m) (a := (.inr () : Bool ⊕ Unit)) (b := .inl false) (Lf := fun k i => f19.L0_6 N k (l, m, i)) h
      (fun k => by simp only [f19.L0_6_succ, ge_dec, bif_r]) (fun k i x y _ _ h1 h2 => by
        simp only [f19.L0_6_succ, lt_dec (len_pos h1), bif_l, idx_get h1, idx_get h2, Option.bind_some, wi64_succ (show i < 9223372036854775807 by have := len_pos h1; omega), instr_eq]
        by_cases hxy : x = y
        · simp [hxy]
        · simp [hxy]) N hl
    rw [decide_eq_true h, Bool.not_true, bif_r, key, Option.bind_some]
    by_cases he : l = m <;> simp [he]
  · rw [decide_eq_false h, decide_eq_false (fun e => h (by rw [e]))]; rfl
def greatB (l : List Instr) : Bool := (decide ((l.length : Int) > 60) && decide ((l.length : Int) ≤ 200)) || decide ((l.length : Int) > 210)
theorem f10_ok (N : Nat) (l : List Instr) : F10 N l = some (greatB l) := by
  rw [F10_eq]
  unfold greatB
  cases decide ((l.length : Int) > 60) <;> cases decide ((l.length : Int) ≤ 200) <;> rfl
theorem not_great {l : List Instr} (h : greatB l = false) : l.length ≤ 210 := by
  simp only [greatB, Bool.or_eq_false_iff, decide_eq_false_iff_not] at h
  omega
theorem f11_ok {N : Nat} {l : List Instr} (hN : 500 < N) (hl : l.length ≤ 9223372036854775807) (i : Int) :
    F11 N (l, i) = some (if validB l then (if 0 ≤ i ∧ i < l.length then (cN (nx l i.toNat), 0) else ([], 2)) else ([], 8)) := by
  rw [F11_eq, f15_ok (by omega) hl, Option.bind_some]
  cases h : validB l with
  | false => rfl
  | true =>
    have hv := valid_V h
    simp only [bif_l, show ((0 : Int) != 0) = false from rfl, bif_r, if_true, bif_tt, Option.bind_some]
    by_cases hi : 0 ≤ i ∧ i < l.length
    · rw [if_pos hi, show (decide (i < 0) || decide (i ≥ (l.length : Int))) = false by simp; omega, bif_r]
      have e : i = ((i.toNat : Nat) : Int) := by omega
      generalize i.toNat = j at e
      subst e
      rw [f36_ok hv (by omega), Option.bind_some]
    · rw [if_neg hi, show (decide (i < 0) || decide (i ≥ (l.length : Int))) = true by simp; omega, bif_l]
theorem f12_ok {N : Nat} {l : List Instr} (hN : 500 < N) (hl : l.length ≤ 9223372036854775807) (hx : ∀ x ∈ l, okI x) (i : Int) :
    F12 N (l, i) = some (if validB l then (if 0 ≤ i ∧ i < l.length then (cN (nx l i.toNat), 0) else ([], 2)) else ([], 8)) := by
  rw [F12_eq, f16_ok (by omega) hl hx, Option.bind_some]
  cases h : validB l with
  | false => rfl
  | true =>
    have hv := valid_V h
    simp only [bif_l, show ((0 : Int) != 0) = false from rfl, bif_r, if_true, bif_tt, Option.bind_some]
    by_cases hi : 0 ≤ i ∧ i < l.length
    · rw [if_pos hi, show (decide (i < 0) || decide (i ≥ (l.length : Int))) = false by simp; omega, bif_r]
      have e : i = ((i.toNat : Nat) : Int) := by omega
      generalize i.toNat = j at e
      subst e
      rw [f37_ok hv (by omega), Option.bind_some]
    · rw [if_neg hi, show (decide (i < 0) || decide (i ≥ (l.length : Int))) = true by simp; omega, bif_l]
theorem okI_of {l : List Instr} (h : okD [⟨.sl TInstr, l⟩]) : l.length ≤ 9223372036854775807 ∧ ∀ x ∈ l, okI x := by
  have h := (okD_cons.1 h).1
  exact ⟨h.1, fun x hx => by
    have := h.2 x hx
    exact ⟨this.2.1, this.2.2.1, this.2.2.2⟩⟩
theorem okd_get {d : Dyn} {r : List Dyn} (h : okD (d :: r)) : d.t.ok d.v ∧ okD r := okD_cons.1 h
theorem nexts_gen {N : Nat} (hN : 500 < N) {l : List Instr} (hl : l.length ≤ 9223372036854775807) (hx : ∀ x ∈ l, okI x) (i : Int) : F3 N (l, i) = some true := by
  rw [F3_eq, f10_ok, Option.bind_some]
  cases hg : greatB l with
  | true => rfl
  | false =>
    have h210 := not_great hg
    have hnx : ∀ i, (cN (nx l i)).length < N := fun i => by have := nx_len l i; rw [cN_length]; omega
    have hr : ((reachL l).set (l.length - 1) true).length < N := by rw [List.length_set, reachL_len]; omega
    rw [bif_r, room_small (by omega) (by omega), chk_true, f11_ok hN hl, f12_ok hN hl hx, f13_ok hN hl, f14_ok hN hl hx, f15_ok (by omega) hl, f16_ok (by omega) hl hx, f19_ok (by omega) (by omega)]
    simp only [Option.bind_some, List.nil_append, decide_true, bind_id, beq_self_eq_true, bif_l]
    cases validB l with
    | false =>
      simp only [Bool.false_eq_true, if_false]
      rw [f17_ok (by simp; omega) (by simp), f18_ok (by simp; omega) (by simp)]
      simp
    | true =>
      simp only [if_true]
      rw [f18_ok hr (by rw [List.length_set, reachL_len]; omega)]
      by_cases hi : 0 ≤ i ∧ i < l.length
      · simp only [hi, and_self, if_true]
        rw [f17_ok (hnx _) (by have := nx_len l i.toNat; rw [cN_length]; omega)]
        simp
      · simp only [hi, if_false]
        rw [f17_ok (by simp; omega) (by simp)]
        simp
theorem nexts_law : ∀ x, okL [.sl TInstr, .int .i64] x → F3 20000000 x = some true := fun x h => by
  obtain ⟨h1, _⟩ := okd_get h
  have hx : okD [⟨.sl TInstr, x.1⟩] := okD_cons.2 ⟨h1, okD_nil.2 trivial⟩
  exact nexts_gen (by omega) (okI_of hx).1 (okI_of hx).2 x.2
end Go.Proofs.Ytedmahccogjemaa
