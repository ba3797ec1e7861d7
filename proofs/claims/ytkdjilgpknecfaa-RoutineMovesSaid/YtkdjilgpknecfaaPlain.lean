/- Plain laws on what the functions are made of. -/
import Derived.Test.YtkdjilgpknecfaaSymN
import Derived.IntWalk
namespace Go.Sym
open Go Go.Eng

theorem wi64_in {n : Int} (h : -9223372036854775808 ≤ n ∧ n ≤ 9223372036854775807) : wi64 n = n := IntWalk.i64_in n h
theorem wu64_in {n : Int} (h : 0 ≤ n ∧ n ≤ 18446744073709551615) : wu64 n = n := IntWalk.u64_in n h
theorem wu8_in {n : Int} (h : 0 ≤ n ∧ n ≤ 255) : wu8 n = n := IntWalk.u8_in n h
theorem tdiv_nn {a b : Int} (h : 0 ≤ a) : Int.tdiv a b = a / b := Int.tdiv_eq_ediv_of_nonneg h
theorem tmod_nn {a b : Int} (h : 0 ≤ a) : Int.tmod a b = a % b := Int.tmod_eq_emod_of_nonneg h

theorem idx_mid {α : Type} (pre : List α) (x : α) (r : List α) : idx (pre ++ x :: r) (pre.length : Int) = some x := by
  simp [idx]
theorem idx_mid' {α : Type} {l pre : List α} {x : α} {r : List α} {i : Int} (hl : l = pre ++ x :: r) (hi : i = (pre.length : Int)) : idx l i = some x := by
  subst hl hi; exact idx_mid pre x r
theorem idx_of_get {α : Type} {l : List α} {i : Int} {x : α} (h0 : 0 ≤ i) (h : l[i.toNat]? = some x) : idx l i = some x := by
  simp [idx, h0, h]
theorem room_of {n b : Nat} (h1 : n ≤ 9223372036854775807) (h2 : n * b ≤ 140737488355328) : room n b = true := by
  simp [room, maxLenA, roomA, h1, h2]
theorem chk_true {α : Type} (k : Option α) : chk true k = k := rfl
theorem chk_of {α : Type} {b : Bool} {k : Option α} (h : b = true) : chk b k = k := by subst h; rfl
end Go.Sym
