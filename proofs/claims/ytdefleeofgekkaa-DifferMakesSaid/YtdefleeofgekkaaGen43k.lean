/- What the functions compute. -/
import Derived.Test.YtdefleeofgekkaaTab43k
namespace Go.Proofs.Ytdefleeofgekkaa
open Go Go.Eng Go.Sym
@[reducible] def TerrorAddressString : Ty := (.prod .str (.int .u64))
abbrev errorAddressString : Type := (List UInt8) × (Int)
@[reducible] def TLocal : Ty := (.prod (.int .i64) .val)
abbrev Local : Type := (Int) × (Val)
@[reducible] def TPanicState : Ty := (.prod (.int .u64) (.prod .val (.int .u64)))
abbrev PanicState : Type := (Int) × ((Val) × (Int))
@[reducible] def TboundsError : Ty := (.prod (.int .i64) (.prod (.int .i64) (.prod .bool (.int .u8))))
abbrev boundsError : Type := (Int) × ((Int) × ((Bool) × (Int)))
@[reducible] def TDeferState : Ty := (.prod (.int .i64) (.prod (.int .i64) (.prod .bool .val)))
abbrev DeferState : Type := (Int) × ((Int) × ((Bool) × (Val)))
@[reducible] def TFrameState : Ty := (.prod (.int .i64) (.prod (.int .i64) (.prod (.int .u64) (.sl TLocal))))
abbrev FrameState : Type := (Int) × ((Int) × ((Int) × (List (Local))))
@[reducible] def TRoutineState : Ty := (.prod (.int .u8) (.prod (.int .i64) (.prod (.sl TFrameState) (.prod (.sl TDeferState) (.sl TPanicState)))))
abbrev RoutineState : Type := (Int) × ((Int) × ((List (FrameState)) × ((List (DeferState)) × (List (PanicState)))))
@[reducible] def TState : Ty := (.prod (.int .u8) (.prod (.int .i64) (.prod (.int .i64) (.sl TRoutineState))))
abbrev State : Type := (Int) × ((Int) × ((Int) × (List (RoutineState))))
@[reducible] def TEdit : Ty := (.prod (.int .u8) (.prod (.int .i64) (.prod (.int .i64) (.prod (.int .u8) (.prod (.int .i64) (.prod (.int .i64) TRoutineState))))))
abbrev Edit : Type := (Int) × ((Int) × ((Int) × ((Int) × ((Int) × ((Int) × (RoutineState))))))
/- wreckage/wreckageref38.deep -/
namespace f78
def cuts : Nat → Nat → Option Outs := fun _ _ => none
def ccut : Nat → Nat → Option Outs := fun _ _ => none
def ety : Nat → Nat → Option Ty := fun _ _ => none
def args : List PSh := [.agg [.int .u8, .int .i64, .str, .sl .val .bor, .bool], .c (.int .i64)]
def ta : List Ty := [(.int .u8), (.int .i64), .str, (.sl .val), .bool, (.int .i64)]
def res : List (Bool × List CSh) := [(false, [.bool])]
def tr : List Ty := [.bool]
def E0 (N : Nat) (R : ((Int) × (Int) × (List UInt8) × (List (Val)) × (Bool) × Int) → Option (Bool)) : SEnv := (SEnv.base tab cuts ccut ety).addCal 78 ⟨args, ta, res, tr, 0, R⟩
theorem ok0 (N : Nat) (R : ((Int) × (Int) × (List UInt8) × (List (Val)) × (Bool) × Int) → Option (Bool)) (hR : CalOK tab 78 ⟨args, ta, res, tr, 0, R⟩) : EnvOK tab (E0 N R) := (base_ok tab cuts ccut ety).addCal hR
def T0_6 : Tmpl := ⟨[(1, .c (.int .i64)), (2, .c (.ptr 0 2 0 0 0)), (5, .c (.int .i64))], [], [(0, 2, .box 0 [.int .u8, .int .i64, .str, .sl .val .bor, .bool])], 1, [], 1, [(.int .i64), (.int .i64), (.int .u8), (.int .i64), .str, (.sl .val), .bool]⟩
def O0_6 : Outs := [(.ret, ⟨[(4, .c (.bool))], [], [], 1, [], 0, [.bool]⟩), (.exit 0, ⟨[], [], [], 1, [], 0, []⟩)]
def L0_6 (N : Nat) (R : ((Int) × (Int) × (List UInt8) × (List (Val)) × (Bool) × Int) → Option (Bool)) (k : Nat) (x : (Int) × (Int) × (Int) × (Int) × (List UInt8) × (List (Val)) × Bool) : Option ((Bool) ⊕ (Unit)) := loopF (loopStep (E0 N R) fuelW 0 6 (bodyAt t78 6) T0_6 O0_6) k x
theorem L0_6_succ (N : Nat) (R : ((Int) × (Int) × (List UInt8) × (List (Val)) × (Bool) × Int) → Option (Bool)) (k : Nat) (v0 : Int) (v1 : Int) (v2 : Int) (v3 : Int) (v4 : List UInt8) (v5 : List (Val)) (v6 : Bool) : L0_6 N R (k + 1) (v0, v1, v2, v3, v4, v5, v6) =
  (bif (decide (v1 < (v5.length : Int)))
  then (Option.bind (idx v5 v1) fun x7 =>
    (Option.bind (R (x7.kind, x7.int, x7.text, x7.list, x7.cut, (wi64 (v0 - (1 : Int))))) fun y8 =>
    (bif y8
    then some (Sum.inl true)
    else L0_6 N R k (v0, (wi64 (v1 + (1 : Int))), v2, v3, v4, v5, v6))))
  else some (Sum.inr ())) := by kernel_rfl
def E1 (N : Nat) (R : ((Int) × (Int) × (List UInt8) × (List (Val)) × (Bool) × Int) → Option (Bool)) : SEnv := (E0 N R).addLoop N 0 6 T0_6 O0_6
theorem ok1 (N : Nat) (R : ((Int) × (Int) × (List UInt8) × (List (Val)) × (Bool) × Int) → Option (Bool)) (hR : CalOK tab 78 ⟨args, ta, res, tr, 0, R⟩) : EnvOK tab (E1 N R) := (ok0 N R hR).addLoop N 0 6 T0_6 O0_6
end f78
def F78 (N : Nat) (x : (Int) × (Int) × (List UInt8) × (List (Val)) × (Bool) × Int) : Option (Bool) := fixF (fun N R x => fnRun (f78.E1 N R) fuelW 78 f78.args f78.ta f78.res f78.tr 0 x) N x
open f78 in
theorem F78_eq (N : Nat) (p0 : Int) (p1 : Int) (p2 : List UInt8) (p3 : List (Val)) (p4 : Bool) (p5 : Int) : F78 (N + 1) (p0, p1, p2, p3, p4, p5) =
  (bif (p5 == (0 : Int))
  then some true
  else (bif (decide ((p2.length : Int) > (100 : Int)))
    then some true
    else (bif (decide ((p3.length : Int) > (400 : Int)))
      then some true
      else (Option.bind (L0_6 N (F78 N) N (p5, (0 : Int), p0, p1, p2, p3, p4)) fun y9 =>
        (match y9 with
        | .inl a10 => some a10
        | .inr b11 => some false))))) := by kernel_rfl
theorem F78_zero (x : (Int) × (Int) × (List UInt8) × (List (Val)) × (Bool) × Int) : F78 0 x = none := rfl
def c78 (N : Nat) : Sym.Callee := ⟨f78.args, f78.ta, f78.res, f78.tr, 0, F78 N⟩
theorem ok78 : ∀ N : Nat, CalOK tab 78 (c78 N)
  | 0 => fun _ _ h => by cases h
  | N + 1 => fn_ok (f78.ok1 N (F78 N) (ok78 N)) fuelW 78 f78.args f78.ta f78.res f78.tr 0

/- wreckage/wreckageref38.Nodes -/
namespace f79
def cuts : Nat → Nat → Option Outs := fun _ _ => none
def ccut : Nat → Nat → Option Outs := fun _ _ => none
def ety : Nat → Nat → Option Ty := fun _ _ => none
def args : List PSh := [.agg [.int .u8, .int .i64, .str, .sl .val .bor, .bool]]
def ta : List Ty := [(.int .u8), (.int .i64), .str, (.sl .val), .bool]
def res : List (Bool × List CSh) := [(false, [.int .i64])]
def tr : List Ty := [(.int .i64)]
def E0 (N : Nat) (R : ((Int) × (Int) × (List UInt8) × (List (Val)) × Bool) → Option (Int)) : SEnv := (SEnv.base tab cuts ccut ety).addCal 79 ⟨args, ta, res, tr, 0, R⟩
theorem ok0 (N : Nat) (R : ((Int) × (Int) × (List UInt8) × (List (Val)) × Bool) → Option (Int)) (hR : CalOK tab 79 ⟨args, ta, res, tr, 0, R⟩) : EnvOK tab (E0 N R) := (base_ok tab cuts ccut ety).addCal hR
def T0_4 : Tmpl := ⟨[(1, .c (.ptr 0 1 0 0 0)), (3, .c (.int .i64)), (4, .c (.int .i64))], [], [(0, 1, .box 0 [.int .u8, .int .i64, .str, .sl .val .bor, .bool])], 1, [], 1, [(.int .i64), (.int .i64), (.int .u8), (.int .i64), .str, (.sl .val), .bool]⟩
def O0_4 : Outs := [(.exit 0, ⟨[(3, .c (.int .i64))], [], [], 1, [], 0, [(.int .i64)]⟩)]
def L0_4 (N : Nat) (R : ((Int) × (Int) × (List UInt8) × (List (Val)) × Bool) → Option (Int)) (k : Nat) (x : (Int) × (Int) × (Int) × (Int) × (List UInt8) × (List (Val)) × Bool) : Option ((Int)) := loopF (loopStep (E0 N R) fuelW 0 4 (bodyAt t79 4) T0_4 O0_4) k x
theorem L0_4_succ (N : Nat) (R : ((Int) × (Int) × (List UInt8) × (List (Val)) × Bool) → Option (Int)) (k : Nat) (v0 : Int) (v1 : Int) (v2 : Int) (v3 : Int) (v4 : List UInt8) (v5 : List (Val)) (v6 : Bool) : L0_4 N R (k + 1) (v0, v1, v2, v3, v4, v5, v6) =
  (bif (decide (v1 < (v5.length : Int)))
  then (bif (decide (v0 ≤ (5000 : Int)))
    then (Option.bind (idx v5 v1) fun x7 =>
      (Option.bind (R (x7.kind, x7.int, x7.text, x7.list, x7.cut)) fun y8 =>
      L0_4 N R k ((wi64 (v0 + y8)), (wi64 (v1 + (1 : Int))), v2, v3, v4, v5, v6)))
    else some v0)
  else some v0) := by kernel_rfl
def E1 (N : Nat) (R : ((Int) × (Int) × (List UInt8) × (List (Val)) × Bool) → Option (Int)) : SEnv := (E0 N R).addLoop N 0 4 T0_4 O0_4
theorem ok1 (N : Nat) (R : ((Int) × (Int) × (List UInt8) × (List (Val)) × Bool) → Option (Int)) (hR : CalOK tab 79 ⟨args, ta, res, tr, 0, R⟩) : EnvOK tab (E1 N R) := (ok0 N R hR).addLoop N 0 4 T0_4 O0_4
end f79
def F79 (N : Nat) (x : (Int) × (Int) × (List UInt8) × (List (Val)) × Bool) : Option (Int) := fixF (fun N R x => fnRun (f79.E1 N R) fuelW 79 f79.args f79.ta f79.res f79.tr 0 x) N x
open f79 in
theorem F79_eq (N : Nat) (p0 : Int) (p1 : Int) (p2 : List UInt8) (p3 : List (Val)) (p4 : Bool) : F79 (N + 1) (p0, p1, p2, p3, p4) =
  (Option.bind (L0_4 N (F79 N) N ((1 : Int), (0 : Int), p0, p1, p2, p3, p4)) fun y9 =>
  some y9) := by kernel_rfl
theorem F79_zero (x : (Int) × (Int) × (List UInt8) × (List (Val)) × Bool) : F79 0 x = none := rfl
def c79 (N : Nat) : Sym.Callee := ⟨f79.args, f79.ta, f79.res, f79.tr, 0, F79 N⟩
theorem ok79 : ∀ N : Nat, CalOK tab 79 (c79 N)
  | 0 => fun _ _ h => by cases h
  | N + 1 => fn_ok (f79.ok1 N (F79 N) (ok79 N)) fuelW 79 f79.args f79.ta f79.res f79.tr 0

/- wreckage/wreckageref38.Great -/
namespace f52
def cuts : Nat → Nat → Option Outs := fun _ _ => none
def ccut : Nat → Nat → Option Outs := fun _ _ => none
def ety : Nat → Nat → Option Ty := fun _ _ => none
def args : List PSh := [.agg [.int .u8, .int .i64, .str, .sl .val .bor, .bool]]
def ta : List Ty := [(.int .u8), (.int .i64), .str, (.sl .val), .bool]
def res : List (Bool × List CSh) := [(false, [.bool])]
def tr : List Ty := [.bool]
def E0 (N : Nat) : SEnv := ((SEnv.base tab cuts ccut ety).addCal 78 (c78 N)).addCal 79 (c79 N)
theorem ok0 (N : Nat) : EnvOK tab (E0 N) := ((base_ok tab cuts ccut ety).addCal (ok78 N)).addCal (ok79 N)
end f52
def F52 (N : Nat) (x : (Int) × (Int) × (List UInt8) × (List (Val)) × Bool) : Option (Bool) := fnRun (f52.E0 N) fuelW 52 f52.args f52.ta f52.res f52.tr 0 x
open f52 in
theorem F52_eq (N : Nat) (p0 : Int) (p1 : Int) (p2 : List UInt8) (p3 : List (Val)) (p4 : Bool) : F52 N (p0, p1, p2, p3, p4) =
  (Option.bind (F78 N (p0, p1, p2, p3, p4, (14 : Int))) fun y0 =>
  (bif y0
  then some true
  else (Option.bind (F79 N (p0, p1, p2, p3, p4)) fun y1 =>
    some (decide (y1 > (400 : Int)))))) := by kernel_rfl
def c52 (N : Nat) : Sym.Callee := ⟨f52.args, f52.ta, f52.res, f52.tr, 0, F52 N⟩
theorem ok52 (N : Nat) : CalOK tab 52 (c52 N) := fn_ok (f52.ok0 N) fuelW 52 f52.args f52.ta f52.res f52.tr 0

/- wreckage/wreckageref39.Great -/
namespace f50
def cuts : Nat → Nat → Option Outs := fun _ _ => none
def ccut : Nat → Nat → Option Outs := fun _ _ => none
def ety : Nat → Nat → Option Ty := fun _ _ => none
def args : List PSh := [.c (.sl TPanicState .bor)]
def ta : List Ty := [(.sl TPanicState)]
def res : List (Bool × List CSh) := [(false, [.bool])]
def tr : List Ty := [.bool]
def E0 (N : Nat) : SEnv := (SEnv.base tab cuts ccut ety).addCal 52 (c52 N)
theorem ok0 (N : Nat) : EnvOK tab (E0 N) := (base_ok tab cuts ccut ety).addCal (ok52 N)
def T0_6 : Tmpl := ⟨[(0, .c (.sl TPanicState .bor)), (3, .c (.int .i64))], [], [], 1, [], 0, [(.sl TPanicState), (.int .i64)]⟩
def O0_6 : Outs := [(.ret, ⟨[(2, .c (.bool))], [], [], 1, [], 0, [.bool]⟩), (.exit 0, ⟨[], [], [], 1, [], 0, []⟩)]
def L0_6 (N : Nat) (k : Nat) (x : (List (PanicState)) × Int) : Option ((Bool) ⊕ (Unit)) := loopF (loopStep (E0 N) fuelW 0 6 (bodyAt t50 6) T0_6 O0_6) k x
theorem L0_6_succ (N : Nat) (k : Nat) (v0 : List (PanicState)) (v1 : Int) : L0_6 N (k + 1) (v0, v1) =
  (bif (decide (v1 < (v0.length : Int)))
  then (Option.bind (idx v0 v1) fun x2 =>
    (Option.bind (F52 N (x2.2.1.kind, x2.2.1.int, x2.2.1.text, x2.2.1.list, x2.2.1.cut)) fun y3 =>
    (bif y3
    then some (Sum.inl true)
    else L0_6 N k (v0, (wi64 (v1 + (1 : Int)))))))
  else some (Sum.inr ())) := by kernel_rfl
def E1 (N : Nat) : SEnv := (E0 N).addLoop N 0 6 T0_6 O0_6
theorem ok1 (N : Nat) : EnvOK tab (E1 N) := (ok0 N).addLoop N 0 6 T0_6 O0_6
end f50
def F50 (N : Nat) (x : List (PanicState)) : Option (Bool) := fnRun (f50.E1 N) fuelW 50 f50.args f50.ta f50.res f50.tr 0 x
open f50 in
theorem F50_eq (N : Nat) (p0 : List (PanicState)) : F50 N p0 =
  (bif (decide ((p0.length : Int) > (20 : Int)))
  then (bif (decide ((p0.length : Int) ≤ (410 : Int)))
    then some true
    else (bif (decide ((p0.length : Int) > (420 : Int)))
      then some true
      else (Option.bind (L0_6 N N (p0, (0 : Int))) fun y4 =>
        (match y4 with
        | .inl a5 => some a5
        | .inr b6 => some false))))
  else (bif (decide ((p0.length : Int) > (420 : Int)))
    then some true
    else (Option.bind (L0_6 N N (p0, (0 : Int))) fun y7 =>
      (match y7 with
      | .inl a8 => some a8
      | .inr b9 => some false)))) := by kernel_rfl
def c50 (N : Nat) : Sym.Callee := ⟨f50.args, f50.ta, f50.res, f50.tr, 0, F50 N⟩
theorem ok50 (N : Nat) : CalOK tab 50 (c50 N) := fn_ok (f50.ok1 N) fuelW 50 f50.args f50.ta f50.res f50.tr 0

/- wreckage/wreckageref38.GreatFrame -/
namespace f51
def cuts : Nat → Nat → Option Outs := fun _ _ => none
def ccut : Nat → Nat → Option Outs := fun _ _ => none
def ety : Nat → Nat → Option Ty := fun _ _ => none
def args : List PSh := [.agg [.int .i64, .int .i64, .int .u64, .sl TLocal .bor]]
def ta : List Ty := [(.int .i64), (.int .i64), (.int .u64), (.sl TLocal)]
def res : List (Bool × List CSh) := [(false, [.bool])]
def tr : List Ty := [.bool]
def E0 (N : Nat) : SEnv := (SEnv.base tab cuts ccut ety).addCal 52 (c52 N)
theorem ok0 (N : Nat) : EnvOK tab (E0 N) := (base_ok tab cuts ccut ety).addCal (ok52 N)
def T0_3 : Tmpl := ⟨[(1, .c (.ptr 0 1 0 0 0)), (3, .c (.int .i64))], [], [(0, 1, .box 0 [.int .i64, .int .i64, .int .u64, .sl TLocal .bor])], 1, [], 1, [(.int .i64), (.int .i64), (.int .i64), (.int .u64), (.sl TLocal)]⟩
def O0_3 : Outs := [(.ret, ⟨[(2, .c (.bool))], [], [], 1, [], 0, [.bool]⟩), (.exit 0, ⟨[(1, .c (.ptr 0 1 0 0 0))], [], [(0, 1, .box 0 [.int .i64, .int .i64, .int .u64, .sl TLocal .bor])], 1, [], 1, [(.int .i64), (.int .i64), (.int .u64), (.sl TLocal)]⟩)]
def L0_3 (N : Nat) (k : Nat) (x : (Int) × (Int) × (Int) × (Int) × List (Local)) : Option ((Bool) ⊕ ((Int) × (Int) × (Int) × List (Local))) := loopF (loopStep (E0 N) fuelW 0 3 (bodyAt t51 3) T0_3 O0_3) k x
theorem L0_3_succ (N : Nat) (k : Nat) (v0 : Int) (v1 : Int) (v2 : Int) (v3 : Int) (v4 : List (Local)) : L0_3 N (k + 1) (v0, v1, v2, v3, v4) =
  (bif (decide (v0 < (v4.length : Int)))
  then (bif (decide (v0 ≤ (20 : Int)))
    then (Option.bind (idx v4 v0) fun x5 =>
      (Option.bind (F52 N (x5.2.kind, x5.2.int, x5.2.text, x5.2.list, x5.2.cut)) fun y6 =>
      (bif y6
      then some (Sum.inl true)
      else L0_3 N k ((wi64 (v0 + (1 : Int))), v1, v2, v3, v4))))
    else some (Sum.inr (v1, v2, v3, v4)))
  else some (Sum.inr (v1, v2, v3, v4))) := by kernel_rfl
def E1 (N : Nat) : SEnv := (E0 N).addLoop N 0 3 T0_3 O0_3
theorem ok1 (N : Nat) : EnvOK tab (E1 N) := (ok0 N).addLoop N 0 3 T0_3 O0_3
end f51
def F51 (N : Nat) (x : (Int) × (Int) × (Int) × List (Local)) : Option (Bool) := fnRun (f51.E1 N) fuelW 51 f51.args f51.ta f51.res f51.tr 0 x
open f51 in
theorem F51_eq (N : Nat) (p0 : Int) (p1 : Int) (p2 : Int) (p3 : List (Local)) : F51 N (p0, p1, p2, p3) =
  (Option.bind (L0_3 N N ((0 : Int), p0, p1, p2, p3)) fun y7 =>
  (match y7 with
  | .inl a8 => some a8
  | .inr b9 => some (decide ((b9.2.2.2.length : Int) > (20 : Int))))) := by kernel_rfl
def c51 (N : Nat) : Sym.Callee := ⟨f51.args, f51.ta, f51.res, f51.tr, 0, F51 N⟩
theorem ok51 (N : Nat) : CalOK tab 51 (c51 N) := fn_ok (f51.ok1 N) fuelW 51 f51.args f51.ta f51.res f51.tr 0

/- wreckage/wreckageref40.GreatRoutine -/
namespace f24
def cuts : Nat → Nat → Option Outs := fun _ _ => none
def ccut : Nat → Nat → Option Outs := fun _ _ => none
def ety : Nat → Nat → Option Ty := fun _ _ => none
def args : List PSh := [.agg [.int .u8, .int .i64, .sl TFrameState .bor, .sl TDeferState .bor, .sl TPanicState .bor]]
def ta : List Ty := [(.int .u8), (.int .i64), (.sl TFrameState), (.sl TDeferState), (.sl TPanicState)]
def res : List (Bool × List CSh) := [(false, [.bool])]
def tr : List Ty := [.bool]
def E0 (N : Nat) : SEnv := (((SEnv.base tab cuts ccut ety).addCal 50 (c50 N)).addCal 51 (c51 N)).addCal 52 (c52 N)
theorem ok0 (N : Nat) : EnvOK tab (E0 N) := (((base_ok tab cuts ccut ety).addCal (ok50 N)).addCal (ok51 N)).addCal (ok52 N)
def T0_6 : Tmpl := ⟨[(1, .c (.ptr 0 1 0 0 0)), (3, .c (.int .i64))], [], [(0, 1, .box 0 [.int .u8, .int .i64, .sl TFrameState .bor, .sl TDeferState .bor, .sl TPanicState .bor])], 1, [], 1, [(.int .i64), (.int .u8), (.int .i64), (.sl TFrameState), (.sl TDeferState), (.sl TPanicState)]⟩
def O0_6 : Outs := [(.ret, ⟨[(2, .c (.bool))], [], [], 1, [], 0, [.bool]⟩), (.exit 0, ⟨[(1, .c (.ptr 0 1 0 0 0))], [], [(0, 1, .box 0 [.int .u8, .int .i64, .sl TFrameState .bor, .sl TDeferState .bor, .sl TPanicState .bor])], 1, [], 1, [(.int .u8), (.int .i64), (.sl TFrameState), (.sl TDeferState), (.sl TPanicState)]⟩)]
def L0_6 (N : Nat) (k : Nat) (x : (Int) × (Int) × (Int) × (List (FrameState)) × (List (DeferState)) × List (PanicState)) : Option ((Bool) ⊕ ((Int) × (Int) × (List (FrameState)) × (List (DeferState)) × List (PanicState))) := loopF (loopStep (E0 N) fuelW 0 6 (bodyAt t24 6) T0_6 O0_6) k x
theorem L0_6_succ (N : Nat) (k : Nat) (v1 : Int) (v2 : Int) (v3 : Int) (v4 : List (FrameState)) (v5 : List (DeferState)) (v6 : List (PanicState)) : L0_6 N (k + 1) (v1, v2, v3, v4, v5, v6) =
  (bif (decide (v1 < (v4.length : Int)))
  then (Option.bind (idx v4 v1) fun x7 =>
    (Option.bind (F51 N (x7.1, x7.2.1, x7.2.2.1, x7.2.2.2)) fun y8 =>
    (bif y8
    then some (Sum.inl true)
    else L0_6 N k ((wi64 (v1 + (1 : Int))), v2, v3, v4, v5, v6))))
  else some (Sum.inr (v2, v3, v4, v5, v6))) := by kernel_rfl
def E1 (N : Nat) : SEnv := (E0 N).addLoop N 0 6 T0_6 O0_6
theorem ok1 (N : Nat) : EnvOK tab (E1 N) := (ok0 N).addLoop N 0 6 T0_6 O0_6
def T0_16 : Tmpl := ⟨[(1, .c (.ptr 0 1 0 0 0)), (4, .c (.int .i64))], [], [(0, 1, .box 0 [.int .u8, .int .i64, .sl TFrameState .bor, .sl TDeferState .bor, .sl TPanicState .bor])], 1, [], 1, [(.int .i64), (.int .u8), (.int .i64), (.sl TFrameState), (.sl TDeferState), (.sl TPanicState)]⟩
def O0_16 : Outs := [(.ret, ⟨[(2, .c (.bool))], [], [], 1, [], 0, [.bool]⟩), (.exit 2, ⟨[], [], [], 1, [], 0, []⟩)]
def L0_16 (N : Nat) (k : Nat) (x : (Int) × (Int) × (Int) × (List (FrameState)) × (List (DeferState)) × List (PanicState)) : Option ((Bool) ⊕ (Unit)) := loopF (loopStep (E1 N) fuelW 0 16 (bodyAt t24 16) T0_16 O0_16) k x
theorem L0_16_succ (N : Nat) (k : Nat) (v12 : Int) (v13 : Int) (v14 : Int) (v15 : List (FrameState)) (v16 : List (DeferState)) (v17 : List (PanicState)) : L0_16 N (k + 1) (v12, v13, v14, v15, v16, v17) =
  (bif (decide (v12 < (v16.length : Int)))
  then (Option.bind (idx v16 v12) fun x18 =>
    (Option.bind (F52 N (x18.2.2.2.kind, x18.2.2.2.int, x18.2.2.2.text, x18.2.2.2.list, x18.2.2.2.cut)) fun y19 =>
    (bif y19
    then some (Sum.inl true)
    else L0_16 N k ((wi64 (v12 + (1 : Int))), v13, v14, v15, v16, v17))))
  else some (Sum.inr ())) := by kernel_rfl
def E2 (N : Nat) : SEnv := (E1 N).addLoop N 0 16 T0_16 O0_16
theorem ok2 (N : Nat) : EnvOK tab (E2 N) := (ok1 N).addLoop N 0 16 T0_16 O0_16
end f24
def F24 (N : Nat) (x : (Int) × (Int) × (List (FrameState)) × (List (DeferState)) × List (PanicState)) : Option (Bool) := fnRun (f24.E2 N) fuelW 24 f24.args f24.ta f24.res f24.tr 0 x
open f24 in
theorem F24_eq (N : Nat) (p0 : Int) (p1 : Int) (p2 : List (FrameState)) (p3 : List (DeferState)) (p4 : List (PanicState)) : F24 N (p0, p1, p2, p3, p4) =
  (bif (decide ((p2.length : Int) > (12 : Int)))
  then some true
  else (bif (decide ((p3.length : Int) > (12 : Int)))
    then some true
    else (bif (decide ((p4.length : Int) > (20 : Int)))
      then some true
      else (Option.bind (F50 N p4) fun y0 =>
        (bif y0
        then some true
        else (Option.bind (L0_6 N N ((0 : Int), p0, p1, p2, p3, p4)) fun y9 =>
          (match y9 with
          | .inl a10 => some a10
          | .inr b11 => (Option.bind (L0_16 N N ((0 : Int), b11.1, b11.2.1, b11.2.2.1, b11.2.2.2.1, b11.2.2.2.2)) fun y20 =>
            (match y20 with
            | .inl a21 => some a21
            | .inr b22 => some false))))))))) := by kernel_rfl
def c24 (N : Nat) : Sym.Callee := ⟨f24.args, f24.ta, f24.res, f24.tr, 0, F24 N⟩
theorem ok24 (N : Nat) : CalOK tab 24 (c24 N) := fn_ok (f24.ok2 N) fuelW 24 f24.args f24.ta f24.res f24.tr 0

/- wreckage/wreckageref40.Great -/
namespace f9
def cuts : Nat → Nat → Option Outs := fun _ _ => none
def ccut : Nat → Nat → Option Outs := fun _ _ => none
def ety : Nat → Nat → Option Ty := fun _ _ => none
def args : List PSh := [.agg [.int .u8, .int .i64, .int .i64, .sl TRoutineState .bor]]
def ta : List Ty := [(.int .u8), (.int .i64), (.int .i64), (.sl TRoutineState)]
def res : List (Bool × List CSh) := [(false, [.bool])]
def tr : List Ty := [.bool]
def E0 (N : Nat) : SEnv := (SEnv.base tab cuts ccut ety).addCal 24 (c24 N)
theorem ok0 (N : Nat) : EnvOK tab (E0 N) := (base_ok tab cuts ccut ety).addCal (ok24 N)
def T0_3 : Tmpl := ⟨[(1, .c (.ptr 0 1 0 0 0)), (3, .c (.int .i64))], [], [(0, 1, .box 0 [.int .u8, .int .i64, .int .i64, .sl TRoutineState .bor])], 1, [], 1, [(.int .i64), (.int .u8), (.int .i64), (.int .i64), (.sl TRoutineState)]⟩
def O0_3 : Outs := [(.ret, ⟨[(2, .c (.bool))], [], [], 1, [], 0, [.bool]⟩), (.exit 0, ⟨[(1, .c (.ptr 0 1 0 0 0))], [], [(0, 1, .box 0 [.int .u8, .int .i64, .int .i64, .sl TRoutineState .bor])], 1, [], 1, [(.int .u8), (.int .i64), (.int .i64), (.sl TRoutineState)]⟩)]
def L0_3 (N : Nat) (k : Nat) (x : (Int) × (Int) × (Int) × (Int) × List (RoutineState)) : Option ((Bool) ⊕ ((Int) × (Int) × (Int) × List (RoutineState))) := loopF (loopStep (E0 N) fuelW 0 3 (bodyAt t9 3) T0_3 O0_3) k x
theorem L0_3_succ (N : Nat) (k : Nat) (v0 : Int) (v1 : Int) (v2 : Int) (v3 : Int) (v4 : List (RoutineState)) : L0_3 N (k + 1) (v0, v1, v2, v3, v4) =
  (bif (decide (v0 < (v4.length : Int)))
  then (bif (decide (v0 ≤ (20 : Int)))
    then (Option.bind (idx v4 v0) fun x5 =>
      (Option.bind (F24 N (x5.1, x5.2.1, x5.2.2.1, x5.2.2.2.1, x5.2.2.2.2)) fun y6 =>
      (bif y6
      then some (Sum.inl true)
      else L0_3 N k ((wi64 (v0 + (1 : Int))), v1, v2, v3, v4))))
    else some (Sum.inr (v1, v2, v3, v4)))
  else some (Sum.inr (v1, v2, v3, v4))) := by kernel_rfl
def E1 (N : Nat) : SEnv := (E0 N).addLoop N 0 3 T0_3 O0_3
theorem ok1 (N : Nat) : EnvOK tab (E1 N) := (ok0 N).addLoop N 0 3 T0_3 O0_3
end f9
def F9 (N : Nat) (x : (Int) × (Int) × (Int) × List (RoutineState)) : Option (Bool) := fnRun (f9.E1 N) fuelW 9 f9.args f9.ta f9.res f9.tr 0 x
open f9 in
theorem F9_eq (N : Nat) (p0 : Int) (p1 : Int) (p2 : Int) (p3 : List (RoutineState)) : F9 N (p0, p1, p2, p3) =
  (Option.bind (L0_3 N N ((0 : Int), p0, p1, p2, p3)) fun y7 =>
  (match y7 with
  | .inl a8 => some a8
  | .inr b9 => some (decide ((b9.2.2.2.length : Int) > (20 : Int))))) := by kernel_rfl
def c9 (N : Nat) : Sym.Callee := ⟨f9.args, f9.ta, f9.res, f9.tr, 0, F9 N⟩
theorem ok9 (N : Nat) : CalOK tab 9 (c9 N) := fn_ok (f9.ok1 N) fuelW 9 f9.args f9.ta f9.res f9.tr 0

/- wreckage/wreckageref43.Great -/
namespace f17
def cuts : Nat → Nat → Option Outs := fun _ _ => none
def ccut : Nat → Nat → Option Outs := fun _ _ => none
def ety : Nat → Nat → Option Ty := fun _ _ => none
def args : List PSh := [.c (.sl TEdit .bor)]
def ta : List Ty := [(.sl TEdit)]
def res : List (Bool × List CSh) := [(false, [.bool])]
def tr : List Ty := [.bool]
def E0 (N : Nat) : SEnv := (SEnv.base tab cuts ccut ety).addCal 24 (c24 N)
theorem ok0 (N : Nat) : EnvOK tab (E0 N) := (base_ok tab cuts ccut ety).addCal (ok24 N)
def T0_3 : Tmpl := ⟨[(0, .c (.sl TEdit .bor)), (3, .c (.int .i64))], [], [], 1, [], 0, [(.sl TEdit), (.int .i64)]⟩
def O0_3 : Outs := [(.ret, ⟨[(2, .c (.bool))], [], [], 1, [], 0, [.bool]⟩), (.exit 0, ⟨[(0, .c (.sl TEdit .bor))], [], [], 1, [], 0, [(.sl TEdit)]⟩)]
def L0_3 (N : Nat) (k : Nat) (x : (List (Edit)) × Int) : Option ((Bool) ⊕ (List (Edit))) := loopF (loopStep (E0 N) fuelW 0 3 (bodyAt t17 3) T0_3 O0_3) k x
theorem L0_3_succ (N : Nat) (k : Nat) (v0 : List (Edit)) (v1 : Int) : L0_3 N (k + 1) (v0, v1) =
  (bif (decide (v1 < (v0.length : Int)))
  then (bif (decide (v1 ≤ (110 : Int)))
    then (Option.bind (idx v0 v1) fun x2 =>
      (Option.bind (F24 N (x2.2.2.2.2.2.2.1, x2.2.2.2.2.2.2.2.1, x2.2.2.2.2.2.2.2.2.1, x2.2.2.2.2.2.2.2.2.2.1, x2.2.2.2.2.2.2.2.2.2.2)) fun y3 =>
      (bif y3
      then some (Sum.inl true)
      else L0_3 N k (v0, (wi64 (v1 + (1 : Int)))))))
    else some (Sum.inr v0))
  else some (Sum.inr v0)) := by kernel_rfl
def E1 (N : Nat) : SEnv := (E0 N).addLoop N 0 3 T0_3 O0_3
theorem ok1 (N : Nat) : EnvOK tab (E1 N) := (ok0 N).addLoop N 0 3 T0_3 O0_3
end f17
def F17 (N : Nat) (x : List (Edit)) : Option (Bool) := fnRun (f17.E1 N) fuelW 17 f17.args f17.ta f17.res f17.tr 0 x
open f17 in
theorem F17_eq (N : Nat) (p0 : List (Edit)) : F17 N p0 =
  (Option.bind (L0_3 N N (p0, (0 : Int))) fun y4 =>
  (match y4 with
  | .inl a5 => some a5
  | .inr b6 => (bif (decide ((b6.length : Int) > (30 : Int)))
    then (bif (decide ((b6.length : Int) ≤ (100 : Int)))
      then some true
      else some (decide ((b6.length : Int) > (110 : Int))))
    else some (decide ((b6.length : Int) > (110 : Int)))))) := by kernel_rfl
def c17 (N : Nat) : Sym.Callee := ⟨f17.args, f17.ta, f17.res, f17.tr, 0, F17 N⟩
theorem ok17 (N : Nat) : CalOK tab 17 (c17 N) := fn_ok (f17.ok1 N) fuelW 17 f17.args f17.ta f17.res f17.tr 0

/- wreckage/differ.fair -/
namespace f45
def cuts : Nat → Nat → Option Outs := fun _ _ => none
def ccut : Nat → Nat → Option Outs := fun _ _ => none
def ety : Nat → Nat → Option Ty := fun _ _ => none
def args : List PSh := [.agg [.int .u8, .int .i64, .sl TFrameState .bor, .sl TDeferState .bor, .sl TPanicState .bor]]
def ta : List Ty := [(.int .u8), (.int .i64), (.sl TFrameState), (.sl TDeferState), (.sl TPanicState)]
def res : List (Bool × List CSh) := [(false, [.bool])]
def tr : List Ty := [.bool]
def E0 (N : Nat) : SEnv := SEnv.base tab cuts ccut ety
theorem ok0 (N : Nat) : EnvOK tab (E0 N) := base_ok tab cuts ccut ety
end f45
def F45 (N : Nat) (x : (Int) × (Int) × (List (FrameState)) × (List (DeferState)) × List (PanicState)) : Option (Bool) := fnRun (f45.E0 N) fuelW 45 f45.args f45.ta f45.res f45.tr 0 x
open f45 in
theorem F45_eq (N : Nat) (p0 : Int) (p1 : Int) (p2 : List (FrameState)) (p3 : List (DeferState)) (p4 : List (PanicState)) : F45 N (p0, p1, p2, p3, p4) =
  (bif (decide ((p2.length : Int) ≤ (170 : Int)))
  then (bif (decide ((p3.length : Int) ≤ (410 : Int)))
    then some (decide ((p4.length : Int) ≤ (410 : Int)))
    else some false)
  else some false) := by kernel_rfl
def c45 (N : Nat) : Sym.Callee := ⟨f45.args, f45.ta, f45.res, f45.tr, 0, F45 N⟩
theorem ok45 (N : Nat) : CalOK tab 45 (c45 N) := fn_ok (f45.ok0 N) fuelW 45 f45.args f45.ta f45.res f45.tr 0

/- wreckage/differ.whole$1 -/
namespace f57
def cuts : Nat → Nat → Option Outs := fun _ _ => none
def ccut : Nat → Nat → Option Outs := fun _ _ => none
def ety : Nat → Nat → Option Ty := fun _ _ => none
def args : List PSh := [.agg [.int .u8, .int .i64, .sl TFrameState .bor, .sl TDeferState .bor, .sl TPanicState .bor]]
def ta : List Ty := [(.int .u8), (.int .i64), (.sl TFrameState), (.sl TDeferState), (.sl TPanicState)]
def res : List (Bool × List CSh) := [(false, [.bool])]
def tr : List Ty := [.bool]
def E0 (N : Nat) : SEnv := (SEnv.base tab cuts ccut ety).addCal 45 (c45 N)
theorem ok0 (N : Nat) : EnvOK tab (E0 N) := (base_ok tab cuts ccut ety).addCal (ok45 N)
end f57
def F57 (N : Nat) (x : (Int) × (Int) × (List (FrameState)) × (List (DeferState)) × List (PanicState)) : Option (Bool) := fnRun (f57.E0 N) fuelW 57 f57.args f57.ta f57.res f57.tr 0 x
open f57 in
theorem F57_eq (N : Nat) (p0 : Int) (p1 : Int) (p2 : List (FrameState)) (p3 : List (DeferState)) (p4 : List (PanicState)) : F57 N (p0, p1, p2, p3, p4) =
  (Option.bind (F45 N (p0, p1, p2, p3, p4)) fun y0 =>
  some (!y0)) := by kernel_rfl
def c57 (N : Nat) : Sym.Callee := ⟨f57.args, f57.ta, f57.res, f57.tr, 0, F57 N⟩
theorem ok57 (N : Nat) : CalOK tab 57 (c57 N) := fn_ok (f57.ok0 N) fuelW 57 f57.args f57.ta f57.res f57.tr 0

/- wreckage/differ.whole -/
namespace f31
def cuts : Nat → Nat → Option Outs := fun _ _ => none
def ccut : Nat → Nat → Option Outs := fun _ _ => none
def ety : Nat → Nat → Option Ty := fun _ _ => none
def args : List PSh := [.c (.sl TState .bor)]
def ta : List Ty := [(.sl TState)]
def res : List (Bool × List CSh) := [(false, [.bool])]
def tr : List Ty := [.bool]
def E0 (N : Nat) : SEnv := (SEnv.base tab cuts ccut ety).addCal 57 (c57 N)
theorem ok0 (N : Nat) : EnvOK tab (E0 N) := (base_ok tab cuts ccut ety).addCal (ok57 N)
def T1018001007000_3 : Tmpl := ⟨[(0, .c (.sl TRoutineState .d)), (1, .clo 57 []), (7, .c (.int .i64)), (8, .c (.int .i64))], [[], [(16, .c (.ptr 0 4 0 0 3))]], [(0, 4, .box 0 [.int .u8, .int .i64, .int .i64, .sl TRoutineState .d])], 3, [], 1, [(.sl TRoutineState), (.int .i64), (.int .i64), (.int .u8), (.int .i64), (.int .i64), (.sl TRoutineState)]⟩
def O1018001007000_3 : Outs := [(.ret, ⟨[(4, .c (.int .i64))], [[], [(16, .c (.ptr 0 4 0 0 3))]], [(0, 4, .box 0 [.int .u8, .int .i64, .int .i64, .sl TRoutineState .d])], 3, [], 1, [(.int .i64), (.int .u8), (.int .i64), (.int .i64), (.sl TRoutineState)]⟩), (.exit 0, ⟨[], [[], [(16, .c (.ptr 0 4 0 0 3))]], [(0, 4, .box 0 [.int .u8, .int .i64, .int .i64, .sl TRoutineState .d])], 3, [], 1, [(.int .u8), (.int .i64), (.int .i64), (.sl TRoutineState)]⟩)]
def L1018001007000_3 (N : Nat) (k : Nat) (x : (List (RoutineState)) × (Int) × (Int) × (Int) × (Int) × (Int) × List (RoutineState)) : Option (((Int) × (Int) × (Int) × (Int) × List (RoutineState)) ⊕ ((Int) × (Int) × (Int) × List (RoutineState))) := loopF (loopStep (E0 N) fuelW 1018001007000 3 (bodyAt t80 3) T1018001007000_3 O1018001007000_3) k x
theorem L1018001007000_3_succ (N : Nat) (k : Nat) (v4 : List (RoutineState)) (v5 : Int) (v6 : Int) (v7 : Int) (v8 : Int) (v9 : Int) (v10 : List (RoutineState)) : L1018001007000_3 N (k + 1) (v4, v5, v6, v7, v8, v9, v10) =
  (bif (decide (v6 < v5))
  then (Option.bind (idx v4 v6) fun x11 =>
    (Option.bind (F57 N (x11.1, x11.2.1, x11.2.2.1, x11.2.2.2.1, x11.2.2.2.2)) fun y12 =>
    (bif y12
    then some (Sum.inl (v6, v7, v8, v9, v10))
    else L1018001007000_3 N k (v4, v5, (wi64 (v6 + (1 : Int))), v7, v8, v9, v10))))
  else some (Sum.inr (v7, v8, v9, v10))) := by kernel_rfl
def E1 (N : Nat) : SEnv := (E0 N).addLoop N 1018001007000 3 T1018001007000_3 O1018001007000_3
theorem ok1 (N : Nat) : EnvOK tab (E1 N) := (ok0 N).addLoop N 1018001007000 3 T1018001007000_3 O1018001007000_3
def T0_3 : Tmpl := ⟨[(5, .c (.sl TState .bor)), (6, .c (.int .i64)), (7, .c (.int .i64))], [], [], 1, [], 0, [(.sl TState), (.int .i64), (.int .i64)]⟩
def O0_3 : Outs := [(.ret, ⟨[(2, .c (.bool))], [], [], 1, [], 0, [.bool]⟩), (.exit 0, ⟨[], [], [], 1, [], 0, []⟩)]
def L0_3 (N : Nat) (k : Nat) (x : (List (State)) × (Int) × Int) : Option ((Bool) ⊕ (Unit)) := loopF (loopStep (E1 N) fuelW 0 3 (bodyAt t31 3) T0_3 O0_3) k x
theorem L0_3_succ (N : Nat) (k : Nat) (v0 : List (State)) (v1 : Int) (v2 : Int) : L0_3 N (k + 1) (v0, v1, v2) =
  (bif (decide (v2 < v1))
  then (Option.bind (idx v0 v2) fun x3 =>
    (bif (decide ((x3.2.2.2.length : Int) > (16 : Int)))
    then some (Sum.inl false)
    else (Option.bind (L1018001007000_3 N N (x3.2.2.2, (x3.2.2.2.length : Int), (0 : Int), x3.1, x3.2.1, x3.2.2.1, x3.2.2.2)) fun y13 =>
      (match y13 with
      | .inl a14 => (bif (decide (a14.1 ≥ (0 : Int)))
        then some (Sum.inl false)
        else L0_3 N k (v0, v1, (wi64 (v2 + (1 : Int)))))
      | .inr b15 => L0_3 N k (v0, v1, (wi64 (v2 + (1 : Int))))))))
  else some (Sum.inr ())) := by kernel_rfl
def E2 (N : Nat) : SEnv := (E1 N).addLoop N 0 3 T0_3 O0_3
theorem ok2 (N : Nat) : EnvOK tab (E2 N) := (ok1 N).addLoop N 0 3 T0_3 O0_3
end f31
def F31 (N : Nat) (x : List (State)) : Option (Bool) := fnRun (f31.E2 N) fuelW 31 f31.args f31.ta f31.res f31.tr 0 x
open f31 in
theorem F31_eq (N : Nat) (p0 : List (State)) : F31 N p0 =
  (Option.bind (L0_3 N N (p0, (p0.length : Int), (0 : Int))) fun y16 =>
  (match y16 with
  | .inl a17 => some a17
  | .inr b18 => some true)) := by kernel_rfl
def c31 (N : Nat) : Sym.Callee := ⟨f31.args, f31.ta, f31.res, f31.tr, 0, F31 N⟩
theorem ok31 (N : Nat) : CalOK tab 31 (c31 N) := fn_ok (f31.ok2 N) fuelW 31 f31.args f31.ta f31.res f31.tr 0

/- wreckage/differ.sameValue -/
namespace f83
def cuts : Nat → Nat → Option Outs := fun _ _ => none
def ccut : Nat → Nat → Option Outs := fun _ _ => none
def ety : Nat → Nat → Option Ty := fun _ _ => none
def args : List PSh := [.agg [.int .u8, .int .i64, .str, .sl .val .bor, .bool], .agg [.int .u8, .int .i64, .str, .sl .val .bor, .bool]]
def ta : List Ty := [(.int .u8), (.int .i64), .str, (.sl .val), .bool, (.int .u8), (.int .i64), .str, (.sl .val), .bool]
def res : List (Bool × List CSh) := [(false, [.bool])]
def tr : List Ty := [.bool]
def E0 (N : Nat) (R : ((Int) × (Int) × (List UInt8) × (List (Val)) × (Bool) × (Int) × (Int) × (List UInt8) × (List (Val)) × Bool) → Option (Bool)) : SEnv := (SEnv.base tab cuts ccut ety).addCal 83 ⟨args, ta, res, tr, 0, R⟩
theorem ok0 (N : Nat) (R : ((Int) × (Int) × (List UInt8) × (List (Val)) × (Bool) × (Int) × (Int) × (List UInt8) × (List (Val)) × Bool) → Option (Bool)) (hR : CalOK tab 83 ⟨args, ta, res, tr, 0, R⟩) : EnvOK tab (E0 N R) := (base_ok tab cuts ccut ety).addCal hR
def T1036000_6 : Tmpl := ⟨[(1, .c (.sl .val .bor)), (2, .clo 83 []), (15, .c (.sl .val .bor)), (16, .c (.int .i64)), (17, .c (.int .i64))], [[]], [], 2, [], 0, [(.sl .val), (.sl .val), (.int .i64), (.int .i64)]⟩
def O1036000_6 : Outs := [(.ret, ⟨[(6, .c (.bool))], [[]], [], 2, [], 0, [.bool]⟩), (.exit 0, ⟨[], [[]], [], 2, [], 0, []⟩)]
def L1036000_6 (N : Nat) (R : ((Int) × (Int) × (List UInt8) × (List (Val)) × (Bool) × (Int) × (Int) × (List UInt8) × (List (Val)) × Bool) → Option (Bool)) (k : Nat) (x : (List (Val)) × (List (Val)) × (Int) × Int) : Option ((Bool) ⊕ (Unit)) := loopF (loopStep (E0 N R) fuelW 1036000 6 (bodyAt t98 6) T1036000_6 O1036000_6) k x
theorem L1036000_6_succ (N : Nat) (R : ((Int) × (Int) × (List UInt8) × (List (Val)) × (Bool) × (Int) × (Int) × (List UInt8) × (List (Val)) × Bool) → Option (Bool)) (k : Nat) (v0 : List (Val)) (v1 : List (Val)) (v2 : Int) (v3 : Int) : L1036000_6 N R (k + 1) (v0, v1, v2, v3) =
  (bif (decide (v3 < v2))
  then (Option.bind (idx v1 v3) fun x4 =>
    (Option.bind (idx v0 v3) fun x5 =>
    (Option.bind (R (x4.kind, x4.int, x4.text, x4.list, x4.cut, x5.kind, x5.int, x5.text, x5.list, x5.cut)) fun y6 =>
    (bif (!y6)
    then some (Sum.inl false)
    else L1036000_6 N R k (v0, v1, v2, (wi64 (v3 + (1 : Int))))))))
  else some (Sum.inr ())) := by kernel_rfl
def E1 (N : Nat) (R : ((Int) × (Int) × (List UInt8) × (List (Val)) × (Bool) × (Int) × (Int) × (List UInt8) × (List (Val)) × Bool) → Option (Bool)) : SEnv := (E0 N R).addLoop N 1036000 6 T1036000_6 O1036000_6
theorem ok1 (N : Nat) (R : ((Int) × (Int) × (List UInt8) × (List (Val)) × (Bool) × (Int) × (Int) × (List UInt8) × (List (Val)) × Bool) → Option (Bool)) (hR : CalOK tab 83 ⟨args, ta, res, tr, 0, R⟩) : EnvOK tab (E1 N R) := (ok0 N R hR).addLoop N 1036000 6 T1036000_6 O1036000_6
end f83
def F83 (N : Nat) (x : (Int) × (Int) × (List UInt8) × (List (Val)) × (Bool) × (Int) × (Int) × (List UInt8) × (List (Val)) × Bool) : Option (Bool) := fixF (fun N R x => fnRun (f83.E1 N R) fuelW 83 f83.args f83.ta f83.res f83.tr 0 x) N x
open f83 in
theorem F83_eq (N : Nat) (p0 : Int) (p1 : Int) (p2 : List UInt8) (p3 : List (Val)) (p4 : Bool) (p5 : Int) (p6 : Int) (p7 : List UInt8) (p8 : List (Val)) (p9 : Bool) : F83 (N + 1) (p0, p1, p2, p3, p4, p5, p6, p7, p8, p9) =
  (bif (p0 == p5)
  then (bif (p1 == p6)
    then (bif (p2 == p7)
      then (bif (p4 == p9)
        then (bif ((p3.length : Int) != (p8.length : Int))
          then some false
          else (Option.bind (L1036000_6 N (F83 N) N (p8, p3, (p3.length : Int), (0 : Int))) fun y7 =>
            (match y7 with
            | .inl a8 => some a8
            | .inr b9 => some true)))
        else some false)
      else some false)
    else some false)
  else some false) := by kernel_rfl
theorem F83_zero (x : (Int) × (Int) × (List UInt8) × (List (Val)) × (Bool) × (Int) × (Int) × (List UInt8) × (List (Val)) × Bool) : F83 0 x = none := rfl
def c83 (N : Nat) : Sym.Callee := ⟨f83.args, f83.ta, f83.res, f83.tr, 0, F83 N⟩
theorem ok83 : ∀ N : Nat, CalOK tab 83 (c83 N)
  | 0 => fun _ _ h => by cases h
  | N + 1 => fn_ok (f83.ok1 N (F83 N) (ok83 N)) fuelW 83 f83.args f83.ta f83.res f83.tr 0

/- wreckage/differ.sameFrame$1 -/
namespace f82
def cuts : Nat → Nat → Option Outs := fun _ _ => none
def ccut : Nat → Nat → Option Outs := fun _ _ => none
def ety : Nat → Nat → Option Ty := fun _ _ => none
def args : List PSh := [.agg [.int .i64, .int .u8, .int .i64, .str, .sl .val .bor, .bool], .agg [.int .i64, .int .u8, .int .i64, .str, .sl .val .bor, .bool]]
def ta : List Ty := [(.int .i64), (.int .u8), (.int .i64), .str, (.sl .val), .bool, (.int .i64), (.int .u8), (.int .i64), .str, (.sl .val), .bool]
def res : List (Bool × List CSh) := [(false, [.bool])]
def tr : List Ty := [.bool]
def E0 (N : Nat) : SEnv := (SEnv.base tab cuts ccut ety).addCal 83 (c83 N)
theorem ok0 (N : Nat) : EnvOK tab (E0 N) := (base_ok tab cuts ccut ety).addCal (ok83 N)
end f82
def F82 (N : Nat) (x : (Int) × (Int) × (Int) × (List UInt8) × (List (Val)) × (Bool) × (Int) × (Int) × (Int) × (List UInt8) × (List (Val)) × Bool) : Option (Bool) := fnRun (f82.E0 N) fuelW 82 f82.args f82.ta f82.res f82.tr 0 x
open f82 in
theorem F82_eq (N : Nat) (p0 : Int) (p1 : Int) (p2 : Int) (p3 : List UInt8) (p4 : List (Val)) (p5 : Bool) (p6 : Int) (p7 : Int) (p8 : Int) (p9 : List UInt8) (p10 : List (Val)) (p11 : Bool) : F82 N (p0, p1, p2, p3, p4, p5, p6, p7, p8, p9, p10, p11) =
  (bif (p0 == p6)
  then (Option.bind (F83 N (p1, p2, p3, p4, p5, p7, p8, p9, p10, p11)) fun y0 =>
    some y0)
  else some false) := by kernel_rfl
def c82 (N : Nat) : Sym.Callee := ⟨f82.args, f82.ta, f82.res, f82.tr, 0, F82 N⟩
theorem ok82 (N : Nat) : CalOK tab 82 (c82 N) := fn_ok (f82.ok0 N) fuelW 82 f82.args f82.ta f82.res f82.tr 0

/- wreckage/differ.sameFrame -/
namespace f59
def cuts : Nat → Nat → Option Outs := fun _ _ => none
def ccut : Nat → Nat → Option Outs := fun _ _ => none
def ety : Nat → Nat → Option Ty := fun _ _ => none
def args : List PSh := [.agg [.int .i64, .int .i64, .int .u64, .sl TLocal .bor], .agg [.int .i64, .int .i64, .int .u64, .sl TLocal .bor]]
def ta : List Ty := [(.int .i64), (.int .i64), (.int .u64), (.sl TLocal), (.int .i64), (.int .i64), (.int .u64), (.sl TLocal)]
def res : List (Bool × List CSh) := [(false, [.bool])]
def tr : List Ty := [.bool]
def E0 (N : Nat) : SEnv := (SEnv.base tab cuts ccut ety).addCal 82 (c82 N)
theorem ok0 (N : Nat) : EnvOK tab (E0 N) := (base_ok tab cuts ccut ety).addCal (ok82 N)
def T1029000_6 : Tmpl := ⟨[(1, .c (.sl TLocal .bor)), (2, .clo 82 []), (15, .c (.sl TLocal .bor)), (16, .c (.int .i64)), (17, .c (.int .i64))], [[]], [], 2, [], 0, [(.sl TLocal), (.sl TLocal), (.int .i64), (.int .i64)]⟩
def O1029000_6 : Outs := [(.ret, ⟨[(6, .c (.bool))], [[]], [], 2, [], 0, [.bool]⟩), (.exit 0, ⟨[], [[]], [], 2, [], 0, []⟩)]
def L1029000_6 (N : Nat) (k : Nat) (x : (List (Local)) × (List (Local)) × (Int) × Int) : Option ((Bool) ⊕ (Unit)) := loopF (loopStep (E0 N) fuelW 1029000 6 (bodyAt t81 6) T1029000_6 O1029000_6) k x
theorem L1029000_6_succ (N : Nat) (k : Nat) (v0 : List (Local)) (v1 : List (Local)) (v2 : Int) (v3 : Int) : L1029000_6 N (k + 1) (v0, v1, v2, v3) =
  (bif (decide (v3 < v2))
  then (Option.bind (idx v1 v3) fun x4 =>
    (Option.bind (idx v0 v3) fun x5 =>
    (Option.bind (F82 N (x4.1, x4.2.kind, x4.2.int, x4.2.text, x4.2.list, x4.2.cut, x5.1, x5.2.kind, x5.2.int, x5.2.text, x5.2.list, x5.2.cut)) fun y6 =>
    (bif (!y6)
    then some (Sum.inl false)
    else L1029000_6 N k (v0, v1, v2, (wi64 (v3 + (1 : Int))))))))
  else some (Sum.inr ())) := by kernel_rfl
def E1 (N : Nat) : SEnv := (E0 N).addLoop N 1029000 6 T1029000_6 O1029000_6
theorem ok1 (N : Nat) : EnvOK tab (E1 N) := (ok0 N).addLoop N 1029000 6 T1029000_6 O1029000_6
end f59
def F59 (N : Nat) (x : (Int) × (Int) × (Int) × (List (Local)) × (Int) × (Int) × (Int) × List (Local)) : Option (Bool) := fnRun (f59.E1 N) fuelW 59 f59.args f59.ta f59.res f59.tr 0 x
open f59 in
theorem F59_eq (N : Nat) (p0 : Int) (p1 : Int) (p2 : Int) (p3 : List (Local)) (p4 : Int) (p5 : Int) (p6 : Int) (p7 : List (Local)) : F59 N (p0, p1, p2, p3, p4, p5, p6, p7) =
  (bif (p0 == p4)
  then (bif (p1 == p5)
    then (bif (p2 == p6)
      then (bif ((p3.length : Int) != (p7.length : Int))
        then some false
        else (Option.bind (L1029000_6 N N (p7, p3, (p3.length : Int), (0 : Int))) fun y7 =>
          (match y7 with
          | .inl a8 => some a8
          | .inr b9 => some true)))
      else some false)
    else some false)
  else some false) := by kernel_rfl
def c59 (N : Nat) : Sym.Callee := ⟨f59.args, f59.ta, f59.res, f59.tr, 0, F59 N⟩
theorem ok59 (N : Nat) : CalOK tab 59 (c59 N) := fn_ok (f59.ok1 N) fuelW 59 f59.args f59.ta f59.res f59.tr 0

/- wreckage/differ.sameDefer -/
namespace f61
def cuts : Nat → Nat → Option Outs := fun _ _ => none
def ccut : Nat → Nat → Option Outs := fun _ _ => none
def ety : Nat → Nat → Option Ty := fun _ _ => none
def args : List PSh := [.agg [.int .i64, .int .i64, .bool, .int .u8, .int .i64, .str, .sl .val .bor, .bool], .agg [.int .i64, .int .i64, .bool, .int .u8, .int .i64, .str, .sl .val .bor, .bool]]
def ta : List Ty := [(.int .i64), (.int .i64), .bool, (.int .u8), (.int .i64), .str, (.sl .val), .bool, (.int .i64), (.int .i64), .bool, (.int .u8), (.int .i64), .str, (.sl .val), .bool]
def res : List (Bool × List CSh) := [(false, [.bool])]
def tr : List Ty := [.bool]
def E0 (N : Nat) : SEnv := (SEnv.base tab cuts ccut ety).addCal 83 (c83 N)
theorem ok0 (N : Nat) : EnvOK tab (E0 N) := (base_ok tab cuts ccut ety).addCal (ok83 N)
end f61
def F61 (N : Nat) (x : (Int) × (Int) × (Bool) × (Int) × (Int) × (List UInt8) × (List (Val)) × (Bool) × (Int) × (Int) × (Bool) × (Int) × (Int) × (List UInt8) × (List (Val)) × Bool) : Option (Bool) := fnRun (f61.E0 N) fuelW 61 f61.args f61.ta f61.res f61.tr 0 x
open f61 in
theorem F61_eq (N : Nat) (p0 : Int) (p1 : Int) (p2 : Bool) (p3 : Int) (p4 : Int) (p5 : List UInt8) (p6 : List (Val)) (p7 : Bool) (p8 : Int) (p9 : Int) (p10 : Bool) (p11 : Int) (p12 : Int) (p13 : List UInt8) (p14 : List (Val)) (p15 : Bool) : F61 N (p0, p1, p2, p3, p4, p5, p6, p7, p8, p9, p10, p11, p12, p13, p14, p15) =
  (bif (p0 == p8)
  then (bif (p1 == p9)
    then (bif (p2 == p10)
      then (Option.bind (F83 N (p3, p4, p5, p6, p7, p11, p12, p13, p14, p15)) fun y0 =>
        some y0)
      else some false)
    else some false)
  else some false) := by kernel_rfl
def c61 (N : Nat) : Sym.Callee := ⟨f61.args, f61.ta, f61.res, f61.tr, 0, F61 N⟩
theorem ok61 (N : Nat) : CalOK tab 61 (c61 N) := fn_ok (f61.ok0 N) fuelW 61 f61.args f61.ta f61.res f61.tr 0

/- wreckage/differ.samePanic -/
namespace f63
def cuts : Nat → Nat → Option Outs := fun _ _ => none
def ccut : Nat → Nat → Option Outs := fun _ _ => none
def ety : Nat → Nat → Option Ty := fun _ _ => none
def args : List PSh := [.agg [.int .u64, .int .u8, .int .i64, .str, .sl .val .bor, .bool, .int .u64], .agg [.int .u64, .int .u8, .int .i64, .str, .sl .val .bor, .bool, .int .u64]]
def ta : List Ty := [(.int .u64), (.int .u8), (.int .i64), .str, (.sl .val), .bool, (.int .u64), (.int .u64), (.int .u8), (.int .i64), .str, (.sl .val), .bool, (.int .u64)]
def res : List (Bool × List CSh) := [(false, [.bool])]
def tr : List Ty := [.bool]
def E0 (N : Nat) : SEnv := (SEnv.base tab cuts ccut ety).addCal 83 (c83 N)
theorem ok0 (N : Nat) : EnvOK tab (E0 N) := (base_ok tab cuts ccut ety).addCal (ok83 N)
end f63
def F63 (N : Nat) (x : (Int) × (Int) × (Int) × (List UInt8) × (List (Val)) × (Bool) × (Int) × (Int) × (Int) × (Int) × (List UInt8) × (List (Val)) × (Bool) × Int) : Option (Bool) := fnRun (f63.E0 N) fuelW 63 f63.args f63.ta f63.res f63.tr 0 x
open f63 in
theorem F63_eq (N : Nat) (p0 : Int) (p1 : Int) (p2 : Int) (p3 : List UInt8) (p4 : List (Val)) (p5 : Bool) (p6 : Int) (p7 : Int) (p8 : Int) (p9 : Int) (p10 : List UInt8) (p11 : List (Val)) (p12 : Bool) (p13 : Int) : F63 N (p0, p1, p2, p3, p4, p5, p6, p7, p8, p9, p10, p11, p12, p13) =
  (bif (p0 == p7)
  then (bif (p6 == p13)
    then (Option.bind (F83 N (p1, p2, p3, p4, p5, p8, p9, p10, p11, p12)) fun y0 =>
      some y0)
    else some false)
  else some false) := by kernel_rfl
def c63 (N : Nat) : Sym.Callee := ⟨f63.args, f63.ta, f63.res, f63.tr, 0, F63 N⟩
theorem ok63 (N : Nat) : CalOK tab 63 (c63 N) := fn_ok (f63.ok0 N) fuelW 63 f63.args f63.ta f63.res f63.tr 0

/- wreckage/differ.sameRoutine -/
namespace f37
def cuts : Nat → Nat → Option Outs := fun _ _ => none
def ccut : Nat → Nat → Option Outs := fun _ _ => none
def ety : Nat → Nat → Option Ty := fun _ _ => none
def args : List PSh := [.agg [.int .u8, .int .i64, .sl TFrameState .bor, .sl TDeferState .bor, .sl TPanicState .bor], .agg [.int .u8, .int .i64, .sl TFrameState .bor, .sl TDeferState .bor, .sl TPanicState .bor]]
def ta : List Ty := [(.int .u8), (.int .i64), (.sl TFrameState), (.sl TDeferState), (.sl TPanicState), (.int .u8), (.int .i64), (.sl TFrameState), (.sl TDeferState), (.sl TPanicState)]
def res : List (Bool × List CSh) := [(false, [.bool])]
def tr : List Ty := [.bool]
def E0 (N : Nat) : SEnv := (((SEnv.base tab cuts ccut ety).addCal 59 (c59 N)).addCal 61 (c61 N)).addCal 63 (c63 N)
theorem ok0 (N : Nat) : EnvOK tab (E0 N) := (((base_ok tab cuts ccut ety).addCal (ok59 N)).addCal (ok61 N)).addCal (ok63 N)
def T1022000_6 : Tmpl := ⟨[(1, .c (.sl TFrameState .bor)), (2, .clo 59 []), (15, .c (.sl TFrameState .bor)), (16, .c (.int .i64)), (17, .c (.int .i64))], [[(2, .c (.ptr 0 2 0 0 0)), (3, .c (.ptr 0 3 1 0 0))]], [(0, 2, .box 0 [.int .u8, .int .i64, .sl TFrameState .bor, .sl TDeferState .bor, .sl TPanicState .bor]), (0, 3, .box 1 [.int .u8, .int .i64, .sl TFrameState .bor, .sl TDeferState .bor, .sl TPanicState .bor])], 2, [], 2, [(.sl TFrameState), (.sl TFrameState), (.int .i64), (.int .i64), (.int .u8), (.int .i64), (.sl TFrameState), (.sl TDeferState), (.sl TPanicState), (.int .u8), (.int .i64), (.sl TFrameState), (.sl TDeferState), (.sl TPanicState)]⟩
def O1022000_6 : Outs := [(.ret, ⟨[(6, .c (.bool))], [[(2, .c (.ptr 0 2 0 0 0)), (3, .c (.ptr 0 3 1 0 0))]], [(0, 2, .box 0 [.int .u8, .int .i64, .sl TFrameState .bor, .sl TDeferState .bor, .sl TPanicState .bor]), (0, 3, .box 1 [.int .u8, .int .i64, .sl TFrameState .bor, .sl TDeferState .bor, .sl TPanicState .bor])], 2, [], 2, [.bool, (.int .u8), (.int .i64), (.sl TFrameState), (.sl TDeferState), (.sl TPanicState), (.int .u8), (.int .i64), (.sl TFrameState), (.sl TDeferState), (.sl TPanicState)]⟩), (.exit 0, ⟨[], [[(2, .c (.ptr 0 2 0 0 0)), (3, .c (.ptr 0 3 1 0 0))]], [(0, 2, .box 0 [.int .u8, .int .i64, .sl TFrameState .bor, .sl TDeferState .bor, .sl TPanicState .bor]), (0, 3, .box 1 [.int .u8, .int .i64, .sl TFrameState .bor, .sl TDeferState .bor, .sl TPanicState .bor])], 2, [], 2, [(.int .u8), (.int .i64), (.sl TFrameState), (.sl TDeferState), (.sl TPanicState), (.int .u8), (.int .i64), (.sl TFrameState), (.sl TDeferState), (.sl TPanicState)]⟩)]
def L1022000_6 (N : Nat) (k : Nat) (x : (List (FrameState)) × (List (FrameState)) × (Int) × (Int) × (Int) × (Int) × (List (FrameState)) × (List (DeferState)) × (List (PanicState)) × (Int) × (Int) × (List (FrameState)) × (List (DeferState)) × List (PanicState)) : Option (((Bool) × (Int) × (Int) × (List (FrameState)) × (List (DeferState)) × (List (PanicState)) × (Int) × (Int) × (List (FrameState)) × (List (DeferState)) × List (PanicState)) ⊕ ((Int) × (Int) × (List (FrameState)) × (List (DeferState)) × (List (PanicState)) × (Int) × (Int) × (List (FrameState)) × (List (DeferState)) × List (PanicState))) := loopF (loopStep (E0 N) fuelW 1022000 6 (bodyAt t70 6) T1022000_6 O1022000_6) k x
theorem L1022000_6_succ (N : Nat) (k : Nat) (v0 : List (FrameState)) (v1 : List (FrameState)) (v2 : Int) (v3 : Int) (v4 : Int) (v5 : Int) (v6 : List (FrameState)) (v7 : List (DeferState)) (v8 : List (PanicState)) (v9 : Int) (v10 : Int) (v11 : List (FrameState)) (v12 : List (DeferState)) (v13 : List (PanicState)) : L1022000_6 N (k + 1) (v0, v1, v2, v3, v4, v5, v6, v7, v8, v9, v10, v11, v12, v13) =
  (bif (decide (v3 < v2))
  then (Option.bind (idx v1 v3) fun x14 =>
    (Option.bind (idx v0 v3) fun x15 =>
    (Option.bind (F59 N (x14.1, x14.2.1, x14.2.2.1, x14.2.2.2, x15.1, x15.2.1, x15.2.2.1, x15.2.2.2)) fun y16 =>
    (bif (!y16)
    then some (Sum.inl (false, v4, v5, v6, v7, v8, v9, v10, v11, v12, v13))
    else L1022000_6 N k (v0, v1, v2, (wi64 (v3 + (1 : Int))), v4, v5, v6, v7, v8, v9, v10, v11, v12, v13)))))
  else some (Sum.inr (v4, v5, v6, v7, v8, v9, v10, v11, v12, v13))) := by kernel_rfl
def E1 (N : Nat) : SEnv := (E0 N).addLoop N 1022000 6 T1022000_6 O1022000_6
theorem ok1 (N : Nat) : EnvOK tab (E1 N) := (ok0 N).addLoop N 1022000 6 T1022000_6 O1022000_6
def T1029000_6 : Tmpl := ⟨[(1, .c (.sl TDeferState .bor)), (2, .clo 61 []), (15, .c (.sl TDeferState .bor)), (16, .c (.int .i64)), (17, .c (.int .i64))], [[(2, .c (.ptr 0 2 0 0 0)), (3, .c (.ptr 0 3 1 0 0))]], [(0, 2, .box 0 [.int .u8, .int .i64, .sl TFrameState .bor, .sl TDeferState .bor, .sl TPanicState .bor]), (0, 3, .box 1 [.int .u8, .int .i64, .sl TFrameState .bor, .sl TDeferState .bor, .sl TPanicState .bor])], 2, [], 2, [(.sl TDeferState), (.sl TDeferState), (.int .i64), (.int .i64), (.int .u8), (.int .i64), (.sl TFrameState), (.sl TDeferState), (.sl TPanicState), (.int .u8), (.int .i64), (.sl TFrameState), (.sl TDeferState), (.sl TPanicState)]⟩
def O1029000_6 : Outs := [(.ret, ⟨[(6, .c (.bool))], [[(2, .c (.ptr 0 2 0 0 0)), (3, .c (.ptr 0 3 1 0 0))]], [(0, 2, .box 0 [.int .u8, .int .i64, .sl TFrameState .bor, .sl TDeferState .bor, .sl TPanicState .bor]), (0, 3, .box 1 [.int .u8, .int .i64, .sl TFrameState .bor, .sl TDeferState .bor, .sl TPanicState .bor])], 2, [], 2, [.bool, (.int .u8), (.int .i64), (.sl TFrameState), (.sl TDeferState), (.sl TPanicState), (.int .u8), (.int .i64), (.sl TFrameState), (.sl TDeferState), (.sl TPanicState)]⟩), (.exit 0, ⟨[], [[(2, .c (.ptr 0 2 0 0 0)), (3, .c (.ptr 0 3 1 0 0))]], [(0, 2, .box 0 [.int .u8, .int .i64, .sl TFrameState .bor, .sl TDeferState .bor, .sl TPanicState .bor]), (0, 3, .box 1 [.int .u8, .int .i64, .sl TFrameState .bor, .sl TDeferState .bor, .sl TPanicState .bor])], 2, [], 2, [(.int .u8), (.int .i64), (.sl TFrameState), (.sl TDeferState), (.sl TPanicState), (.int .u8), (.int .i64), (.sl TFrameState), (.sl TDeferState), (.sl TPanicState)]⟩)]
def L1029000_6 (N : Nat) (k : Nat) (x : (List (DeferState)) × (List (DeferState)) × (Int) × (Int) × (Int) × (Int) × (List (FrameState)) × (List (DeferState)) × (List (PanicState)) × (Int) × (Int) × (List (FrameState)) × (List (DeferState)) × List (PanicState)) : Option (((Bool) × (Int) × (Int) × (List (FrameState)) × (List (DeferState)) × (List (PanicState)) × (Int) × (Int) × (List (FrameState)) × (List (DeferState)) × List (PanicState)) ⊕ ((Int) × (Int) × (List (FrameState)) × (List (DeferState)) × (List (PanicState)) × (Int) × (Int) × (List (FrameState)) × (List (DeferState)) × List (PanicState))) := loopF (loopStep (E1 N) fuelW 1029000 6 (bodyAt t60 6) T1029000_6 O1029000_6) k x
theorem L1029000_6_succ (N : Nat) (k : Nat) (v20 : List (DeferState)) (v21 : List (DeferState)) (v22 : Int) (v23 : Int) (v24 : Int) (v25 : Int) (v26 : List (FrameState)) (v27 : List (DeferState)) (v28 : List (PanicState)) (v29 : Int) (v30 : Int) (v31 : List (FrameState)) (v32 : List (DeferState)) (v33 : List (PanicState)) : L1029000_6 N (k + 1) (v20, v21, v22, v23, v24, v25, v26, v27, v28, v29, v30, v31, v32, v33) =
  (bif (decide (v23 < v22))
  then (Option.bind (idx v21 v23) fun x34 =>
    (Option.bind (idx v20 v23) fun x35 =>
    (Option.bind (F61 N (x34.1, x34.2.1, x34.2.2.1, x34.2.2.2.kind, x34.2.2.2.int, x34.2.2.2.text, x34.2.2.2.list, x34.2.2.2.cut, x35.1, x35.2.1, x35.2.2.1, x35.2.2.2.kind, x35.2.2.2.int, x35.2.2.2.text, x35.2.2.2.list, x35.2.2.2.cut)) fun y36 =>
    (bif (!y36)
    then some (Sum.inl (false, v24, v25, v26, v27, v28, v29, v30, v31, v32, v33))
    else L1029000_6 N k (v20, v21, v22, (wi64 (v23 + (1 : Int))), v24, v25, v26, v27, v28, v29, v30, v31, v32, v33)))))
  else some (Sum.inr (v24, v25, v26, v27, v28, v29, v30, v31, v32, v33))) := by kernel_rfl
def E2 (N : Nat) : SEnv := (E1 N).addLoop N 1029000 6 T1029000_6 O1029000_6
theorem ok2 (N : Nat) : EnvOK tab (E2 N) := (ok1 N).addLoop N 1029000 6 T1029000_6 O1029000_6
def T1036000_6 : Tmpl := ⟨[(1, .c (.sl TPanicState .bor)), (2, .clo 63 []), (15, .c (.sl TPanicState .bor)), (16, .c (.int .i64)), (17, .c (.int .i64))], [[]], [], 2, [], 0, [(.sl TPanicState), (.sl TPanicState), (.int .i64), (.int .i64)]⟩
def O1036000_6 : Outs := [(.ret, ⟨[(6, .c (.bool))], [[]], [], 2, [], 0, [.bool]⟩), (.exit 0, ⟨[], [[]], [], 2, [], 0, []⟩)]
def L1036000_6 (N : Nat) (k : Nat) (x : (List (PanicState)) × (List (PanicState)) × (Int) × Int) : Option ((Bool) ⊕ (Unit)) := loopF (loopStep (E2 N) fuelW 1036000 6 (bodyAt t62 6) T1036000_6 O1036000_6) k x
theorem L1036000_6_succ (N : Nat) (k : Nat) (v40 : List (PanicState)) (v41 : List (PanicState)) (v42 : Int) (v43 : Int) : L1036000_6 N (k + 1) (v40, v41, v42, v43) =
  (bif (decide (v43 < v42))
  then (Option.bind (idx v41 v43) fun x44 =>
    (Option.bind (idx v40 v43) fun x45 =>
    (Option.bind (F63 N (x44.1, x44.2.1.kind, x44.2.1.int, x44.2.1.text, x44.2.1.list, x44.2.1.cut, x44.2.2, x45.1, x45.2.1.kind, x45.2.1.int, x45.2.1.text, x45.2.1.list, x45.2.1.cut, x45.2.2)) fun y46 =>
    (bif (!y46)
    then some (Sum.inl false)
    else L1036000_6 N k (v40, v41, v42, (wi64 (v43 + (1 : Int))))))))
  else some (Sum.inr ())) := by kernel_rfl
def E3 (N : Nat) : SEnv := (E2 N).addLoop N 1036000 6 T1036000_6 O1036000_6
theorem ok3 (N : Nat) : EnvOK tab (E3 N) := (ok2 N).addLoop N 1036000 6 T1036000_6 O1036000_6
end f37
def F37 (N : Nat) (x : (Int) × (Int) × (List (FrameState)) × (List (DeferState)) × (List (PanicState)) × (Int) × (Int) × (List (FrameState)) × (List (DeferState)) × List (PanicState)) : Option (Bool) := fnRun (f37.E3 N) fuelW 37 f37.args f37.ta f37.res f37.tr 0 x
open f37 in
theorem F37_eq (N : Nat) (p0 : Int) (p1 : Int) (p2 : List (FrameState)) (p3 : List (DeferState)) (p4 : List (PanicState)) (p5 : Int) (p6 : Int) (p7 : List (FrameState)) (p8 : List (DeferState)) (p9 : List (PanicState)) : F37 N (p0, p1, p2, p3, p4, p5, p6, p7, p8, p9) =
  (bif (p0 == p5)
  then (bif (p1 == p6)
    then (bif ((p2.length : Int) != (p7.length : Int))
      then some false
      else (Option.bind (L1022000_6 N N (p7, p2, (p2.length : Int), (0 : Int), p0, p1, p2, p3, p4, p5, p6, p7, p8, p9)) fun y17 =>
        (match y17 with
        | .inl a18 => (bif a18.1
          then (bif ((a18.2.2.2.2.1.length : Int) != (a18.2.2.2.2.2.2.2.2.2.1.length : Int))
            then some false
            else (Option.bind (L1029000_6 N N (a18.2.2.2.2.2.2.2.2.2.1, a18.2.2.2.2.1, (a18.2.2.2.2.1.length : Int), (0 : Int), a18.2.1, a18.2.2.1, a18.2.2.2.1, a18.2.2.2.2.1, a18.2.2.2.2.2.1, a18.2.2.2.2.2.2.1, a18.2.2.2.2.2.2.2.1, a18.2.2.2.2.2.2.2.2.1, a18.2.2.2.2.2.2.2.2.2.1, a18.2.2.2.2.2.2.2.2.2.2)) fun y37 =>
              (match y37 with
              | .inl a38 => (bif a38.1
                then (bif ((a38.2.2.2.2.2.1.length : Int) != (a38.2.2.2.2.2.2.2.2.2.2.length : Int))
                  then some false
                  else (Option.bind (L1036000_6 N N (a38.2.2.2.2.2.2.2.2.2.2, a38.2.2.2.2.2.1, (a38.2.2.2.2.2.1.length : Int), (0 : Int))) fun y47 =>
                    (match y47 with
                    | .inl a48 => some a48
                    | .inr b49 => some true)))
                else some false)
              | .inr b39 => (bif ((b39.2.2.2.2.1.length : Int) != (b39.2.2.2.2.2.2.2.2.2.length : Int))
                then some false
                else (Option.bind (L1036000_6 N N (b39.2.2.2.2.2.2.2.2.2, b39.2.2.2.2.1, (b39.2.2.2.2.1.length : Int), (0 : Int))) fun y50 =>
                  (match y50 with
                  | .inl a51 => some a51
                  | .inr b52 => some true))))))
          else some false)
        | .inr b19 => (bif ((b19.2.2.2.1.length : Int) != (b19.2.2.2.2.2.2.2.2.1.length : Int))
          then some false
          else (Option.bind (L1029000_6 N N (b19.2.2.2.2.2.2.2.2.1, b19.2.2.2.1, (b19.2.2.2.1.length : Int), (0 : Int), b19.1, b19.2.1, b19.2.2.1, b19.2.2.2.1, b19.2.2.2.2.1, b19.2.2.2.2.2.1, b19.2.2.2.2.2.2.1, b19.2.2.2.2.2.2.2.1, b19.2.2.2.2.2.2.2.2.1, b19.2.2.2.2.2.2.2.2.2)) fun y53 =>
            (match y53 with
            | .inl a54 => (bif a54.1
              then (bif ((a54.2.2.2.2.2.1.length : Int) != (a54.2.2.2.2.2.2.2.2.2.2.length : Int))
                then some false
                else (Option.bind (L1036000_6 N N (a54.2.2.2.2.2.2.2.2.2.2, a54.2.2.2.2.2.1, (a54.2.2.2.2.2.1.length : Int), (0 : Int))) fun y56 =>
                  (match y56 with
                  | .inl a57 => some a57
                  | .inr b58 => some true)))
              else some false)
            | .inr b55 => (bif ((b55.2.2.2.2.1.length : Int) != (b55.2.2.2.2.2.2.2.2.2.length : Int))
              then some false
              else (Option.bind (L1036000_6 N N (b55.2.2.2.2.2.2.2.2.2, b55.2.2.2.2.1, (b55.2.2.2.2.1.length : Int), (0 : Int))) fun y59 =>
                (match y59 with
                | .inl a60 => some a60
                | .inr b61 => some true)))))))))
    else some false)
  else some false) := by kernel_rfl
def c37 (N : Nat) : Sym.Callee := ⟨f37.args, f37.ta, f37.res, f37.tr, 0, F37 N⟩
theorem ok37 (N : Nat) : CalOK tab 37 (c37 N) := fn_ok (f37.ok3 N) fuelW 37 f37.args f37.ta f37.res f37.tr 0

/- wreckage/differ.Check -/
namespace f21
def cuts : Nat → Nat → Option Outs := fun c i => match c, i with
  | 0, 31 => some [(.normal, ⟨[(100, .c (.bool))], [], [], 1, [], 0, [.bool]⟩)]
  | 0, 8 => some [(.normal, ⟨[(4, .c (.ptr 0 4 0 0 0))], [], [(0, 4, .box 0 [.int .u8, .int .i64, .int .i64, .int .u8, .int .i64, .int .i64, .int .u8, .int .i64, .sl TFrameState .bor, .sl TDeferState .bor, .sl TPanicState .bor])], 1, [], 1, [(.int .u8), (.int .i64), (.int .i64), (.int .u8), (.int .i64), (.int .i64), (.int .u8), (.int .i64), (.sl TFrameState), (.sl TDeferState), (.sl TPanicState)]⟩), (.ret, ⟨[(2, .c (.int .i64))], [], [], 1, [], 0, [(.int .i64)]⟩)]
  | 0, 3 => some [(.ret, ⟨[(2, .c (.int .i64))], [], [], 1, [], 0, [(.int .i64)]⟩), (.normal, ⟨[(1, .c (.ptr 0 1 0 0 0))], [], [(0, 1, .box 0 [.int .u8, .int .i64, .int .i64, .int .u8, .int .i64, .int .i64, .int .u8, .int .i64, .sl TFrameState .bor, .sl TDeferState .bor, .sl TPanicState .bor])], 1, [], 1, [(.int .u8), (.int .i64), (.int .i64), (.int .u8), (.int .i64), (.int .i64), (.int .u8), (.int .i64), (.sl TFrameState), (.sl TDeferState), (.sl TPanicState)]⟩)]
  | 0, 2 => some [(.normal, ⟨[(1, .c (.ptr 0 1 0 0 0)), (29, .c (.bool))], [], [(0, 1, .box 0 [.int .u8, .int .i64, .int .i64, .int .u8, .int .i64, .int .i64, .int .u8, .int .i64, .sl TFrameState .bor, .sl TDeferState .bor, .sl TPanicState .bor])], 1, [], 1, [.bool, (.int .u8), (.int .i64), (.int .i64), (.int .u8), (.int .i64), (.int .i64), (.int .u8), (.int .i64), (.sl TFrameState), (.sl TDeferState), (.sl TPanicState)]⟩)]
  | _, _ => none
def ccut : Nat → Nat → Option Outs := fun _ _ => none
def ety : Nat → Nat → Option Ty := fun _ _ => none
def args : List PSh := [.agg [.int .u8, .int .i64, .int .i64, .int .u8, .int .i64, .int .i64, .int .u8, .int .i64, .sl TFrameState .bor, .sl TDeferState .bor, .sl TPanicState .bor]]
def ta : List Ty := [(.int .u8), (.int .i64), (.int .i64), (.int .u8), (.int .i64), (.int .i64), (.int .u8), (.int .i64), (.sl TFrameState), (.sl TDeferState), (.sl TPanicState)]
def res : List (Bool × List CSh) := [(false, [.int .i64])]
def tr : List Ty := [(.int .i64)]
def E0 (N : Nat) : SEnv := ((SEnv.base tab cuts ccut ety).addCal 45 (c45 N)).addCal 37 (c37 N)
theorem ok0 (N : Nat) : EnvOK tab (E0 N) := ((base_ok tab cuts ccut ety).addCal (ok45 N)).addCal (ok37 N)
end f21
def F21 (N : Nat) (x : (Int) × (Int) × (Int) × (Int) × (Int) × (Int) × (Int) × (Int) × (List (FrameState)) × (List (DeferState)) × List (PanicState)) : Option (Int) := fnRun (f21.E0 N) fuelW 21 f21.args f21.ta f21.res f21.tr 0 x
open f21 in
theorem F21_eq (N : Nat) (p0 : Int) (p1 : Int) (p2 : Int) (p3 : Int) (p4 : Int) (p5 : Int) (p6 : Int) (p7 : Int) (p8 : List (FrameState)) (p9 : List (DeferState)) (p10 : List (PanicState)) : F21 N (p0, p1, p2, p3, p4, p5, p6, p7, p8, p9, p10) =
  (Option.bind ((Option.bind (F45 N (p6, p7, p8, p9, p10)) fun y0 =>
    (bif (!y0)
    then some (true, p0, p1, p2, p3, p4, p5, p6, p7, p8, p9, p10)
    else (bif (decide (p1 < (0 : Int)))
      then some (true, p0, p1, p2, p3, p4, p5, p6, p7, p8, p9, p10)
      else (bif (decide (p1 ≥ (16 : Int)))
        then some (true, p0, p1, p2, p3, p4, p5, p6, p7, p8, p9, p10)
        else (bif (decide (p2 < (0 : Int)))
          then some (true, p0, p1, p2, p3, p4, p5, p6, p7, p8, p9, p10)
          else some ((decide (p2 > (170 : Int))), p0, p1, p2, p3, p4, p5, p6, p7, p8, p9, p10))))))) fun y1 =>
  (Option.bind ((bif y1.1
    then some (Sum.inl (8 : Int))
    else some (Sum.inr (y1.2.1, y1.2.2.1, y1.2.2.2.1, y1.2.2.2.2.1, y1.2.2.2.2.2.1, y1.2.2.2.2.2.2.1, y1.2.2.2.2.2.2.2.1, y1.2.2.2.2.2.2.2.2.1, y1.2.2.2.2.2.2.2.2.2.1, y1.2.2.2.2.2.2.2.2.2.2.1, y1.2.2.2.2.2.2.2.2.2.2.2)))) fun y2 =>
  (match y2 with
  | .inl a3 => some a3
  | .inr b4 => (Option.bind ((bif (b4.1 == (1 : Int))
      then some (Sum.inl ((0 : Int), b4.2.1, b4.2.2.1, (0 : Int), (0 : Int), (0 : Int), b4.2.2.2.2.2.2.1, b4.2.2.2.2.2.2.2.1, b4.2.2.2.2.2.2.2.2.1, b4.2.2.2.2.2.2.2.2.2.1, b4.2.2.2.2.2.2.2.2.2.2))
      else (bif (b4.1 == (2 : Int))
        then some (Sum.inl ((0 : Int), (0 : Int), b4.2.2.1, b4.2.2.2.1, b4.2.2.2.2.1, b4.2.2.2.2.2.1, (0 : Int), (0 : Int), b4.2.2.2.2.2.2.2.2.1, b4.2.2.2.2.2.2.2.2.2.1, b4.2.2.2.2.2.2.2.2.2.2))
        else (bif (b4.1 == (3 : Int))
          then some (Sum.inl ((0 : Int), (0 : Int), (0 : Int), b4.2.2.2.1, b4.2.2.2.2.1, b4.2.2.2.2.2.1, b4.2.2.2.2.2.2.1, b4.2.2.2.2.2.2.2.1, [], b4.2.2.2.2.2.2.2.2.2.1, b4.2.2.2.2.2.2.2.2.2.2))
          else (bif (b4.1 == (4 : Int))
            then some (Sum.inl ((0 : Int), (0 : Int), b4.2.2.1, b4.2.2.2.1, b4.2.2.2.2.1, b4.2.2.2.2.2.1, b4.2.2.2.2.2.2.1, b4.2.2.2.2.2.2.2.1, b4.2.2.2.2.2.2.2.2.1, [], b4.2.2.2.2.2.2.2.2.2.2))
            else (bif (b4.1 == (5 : Int))
              then some (Sum.inl ((0 : Int), (0 : Int), b4.2.2.1, b4.2.2.2.1, b4.2.2.2.2.1, b4.2.2.2.2.2.1, b4.2.2.2.2.2.2.1, b4.2.2.2.2.2.2.2.1, b4.2.2.2.2.2.2.2.2.1, b4.2.2.2.2.2.2.2.2.2.1, []))
              else (bif (b4.1 == (6 : Int))
                then some (Sum.inl ((0 : Int), (0 : Int), b4.2.2.1, b4.2.2.2.1, b4.2.2.2.2.1, b4.2.2.2.2.2.1, b4.2.2.2.2.2.2.1, b4.2.2.2.2.2.2.2.1, b4.2.2.2.2.2.2.2.2.1, b4.2.2.2.2.2.2.2.2.2.1, b4.2.2.2.2.2.2.2.2.2.2))
                else (bif (b4.1 == (7 : Int))
                  then some (Sum.inl ((0 : Int), b4.2.1, b4.2.2.1, b4.2.2.2.1, b4.2.2.2.2.1, b4.2.2.2.2.2.1, (0 : Int), (0 : Int), [], [], []))
                  else some (Sum.inr (8 : Int)))))))))) fun y5 =>
    (match y5 with
    | .inl a6 => (Option.bind ((bif (a6.2.1 != (0 : Int))
        then some true
        else (bif (a6.2.2.1 != (0 : Int))
          then some true
          else (bif (a6.2.2.2.1 != (0 : Int))
            then some true
            else (bif (a6.2.2.2.2.1 != (0 : Int))
              then some true
              else (bif (a6.2.2.2.2.2.1 != (0 : Int))
                then some true
                else (Option.bind (F37 N (a6.2.2.2.2.2.2.1, a6.2.2.2.2.2.2.2.1, a6.2.2.2.2.2.2.2.2.1, a6.2.2.2.2.2.2.2.2.2.1, a6.2.2.2.2.2.2.2.2.2.2, (0 : Int), (0 : Int), [], [], [])) fun y8 =>
                  some (!y8)))))))) fun y9 =>
      (bif y9
      then some (8 : Int)
      else some (0 : Int)))
    | .inr b7 => some b7))))) := by kernel_rfl
def c21 (N : Nat) : Sym.Callee := ⟨f21.args, f21.ta, f21.res, f21.tr, 0, F21 N⟩
theorem ok21 (N : Nat) : CalOK tab 21 (c21 N) := fn_ok (f21.ok0 N) fuelW 21 f21.args f21.ta f21.res f21.tr 0

/- wreckage/differ.check$1 -/
namespace f72
def cuts : Nat → Nat → Option Outs := fun _ _ => none
def ccut : Nat → Nat → Option Outs := fun _ _ => none
def ety : Nat → Nat → Option Ty := fun _ _ => none
def args : List PSh := [.agg [.int .u8, .int .i64, .int .i64, .int .u8, .int .i64, .int .i64, .int .u8, .int .i64, .sl TFrameState .bor, .sl TDeferState .bor, .sl TPanicState .bor]]
def ta : List Ty := [(.int .u8), (.int .i64), (.int .i64), (.int .u8), (.int .i64), (.int .i64), (.int .u8), (.int .i64), (.sl TFrameState), (.sl TDeferState), (.sl TPanicState)]
def res : List (Bool × List CSh) := [(false, [.bool])]
def tr : List Ty := [.bool]
def E0 (N : Nat) : SEnv := (SEnv.base tab cuts ccut ety).addCal 21 (c21 N)
theorem ok0 (N : Nat) : EnvOK tab (E0 N) := (base_ok tab cuts ccut ety).addCal (ok21 N)
end f72
def F72 (N : Nat) (x : (Int) × (Int) × (Int) × (Int) × (Int) × (Int) × (Int) × (Int) × (List (FrameState)) × (List (DeferState)) × List (PanicState)) : Option (Bool) := fnRun (f72.E0 N) fuelW 72 f72.args f72.ta f72.res f72.tr 0 x
open f72 in
theorem F72_eq (N : Nat) (p0 : Int) (p1 : Int) (p2 : Int) (p3 : Int) (p4 : Int) (p5 : Int) (p6 : Int) (p7 : Int) (p8 : List (FrameState)) (p9 : List (DeferState)) (p10 : List (PanicState)) : F72 N (p0, p1, p2, p3, p4, p5, p6, p7, p8, p9, p10) =
  (Option.bind (F21 N (p0, p1, p2, p3, p4, p5, p6, p7, p8, p9, p10)) fun y0 =>
  some (y0 != (0 : Int))) := by kernel_rfl
def c72 (N : Nat) : Sym.Callee := ⟨f72.args, f72.ta, f72.res, f72.tr, 0, F72 N⟩
theorem ok72 (N : Nat) : CalOK tab 72 (c72 N) := fn_ok (f72.ok0 N) fuelW 72 f72.args f72.ta f72.res f72.tr 0

/- wreckage/differ.check -/
namespace f41
def cuts : Nat → Nat → Option Outs := fun _ _ => none
def ccut : Nat → Nat → Option Outs := fun _ _ => none
def ety : Nat → Nat → Option Ty := fun _ _ => none
def args : List PSh := [.c (.sl TEdit .bor)]
def ta : List Ty := [(.sl TEdit)]
def res : List (Bool × List CSh) := [(false, [.int .i64])]
def tr : List Ty := [(.int .i64)]
def E0 (N : Nat) : SEnv := (SEnv.base tab cuts ccut ety).addCal 72 (c72 N)
theorem ok0 (N : Nat) : EnvOK tab (E0 N) := (base_ok tab cuts ccut ety).addCal (ok72 N)
def T1007001007000_3 : Tmpl := ⟨[(0, .c (.sl TEdit .bor)), (1, .clo 72 []), (7, .c (.int .i64)), (8, .c (.int .i64))], [[], []], [], 3, [], 0, [(.sl TEdit), (.int .i64), (.int .i64)]⟩
def O1007001007000_3 : Outs := [(.ret, ⟨[(4, .c (.int .i64))], [[], []], [], 3, [], 0, [(.int .i64)]⟩), (.exit 0, ⟨[], [[], []], [], 3, [], 0, []⟩)]
def L1007001007000_3 (N : Nat) (k : Nat) (x : (List (Edit)) × (Int) × Int) : Option ((Int) ⊕ (Unit)) := loopF (loopStep (E0 N) fuelW 1007001007000 3 (bodyAt t85 3) T1007001007000_3 O1007001007000_3) k x
theorem L1007001007000_3_succ (N : Nat) (k : Nat) (v0 : List (Edit)) (v1 : Int) (v2 : Int) : L1007001007000_3 N (k + 1) (v0, v1, v2) =
  (bif (decide (v2 < v1))
  then (Option.bind (idx v0 v2) fun x3 =>
    (Option.bind (F72 N (x3.1, x3.2.1, x3.2.2.1, x3.2.2.2.1, x3.2.2.2.2.1, x3.2.2.2.2.2.1, x3.2.2.2.2.2.2.1, x3.2.2.2.2.2.2.2.1, x3.2.2.2.2.2.2.2.2.1, x3.2.2.2.2.2.2.2.2.2.1, x3.2.2.2.2.2.2.2.2.2.2)) fun y4 =>
    (bif y4
    then some (Sum.inl v2)
    else L1007001007000_3 N k (v0, v1, (wi64 (v2 + (1 : Int)))))))
  else some (Sum.inr ())) := by kernel_rfl
def E1 (N : Nat) : SEnv := (E0 N).addLoop N 1007001007000 3 T1007001007000_3 O1007001007000_3
theorem ok1 (N : Nat) : EnvOK tab (E1 N) := (ok0 N).addLoop N 1007001007000 3 T1007001007000_3 O1007001007000_3
end f41
def F41 (N : Nat) (x : List (Edit)) : Option (Int) := fnRun (f41.E1 N) fuelW 41 f41.args f41.ta f41.res f41.tr 0 x
open f41 in
theorem F41_eq (N : Nat) (p0 : List (Edit)) : F41 N p0 =
  (bif (decide ((p0.length : Int) > (100 : Int)))
  then some (4 : Int)
  else (Option.bind (L1007001007000_3 N N (p0, (p0.length : Int), (0 : Int))) fun y5 =>
    (match y5 with
    | .inl a6 => (bif (decide (a6 ≥ (0 : Int)))
      then some (8 : Int)
      else some (0 : Int))
    | .inr b7 => some (0 : Int)))) := by kernel_rfl
def c41 (N : Nat) : Sym.Callee := ⟨f41.args, f41.ta, f41.res, f41.tr, 0, F41 N⟩
theorem ok41 (N : Nat) : CalOK tab 41 (c41 N) := fn_ok (f41.ok1 N) fuelW 41 f41.args f41.ta f41.res f41.tr 0

/- wreckage/differ.copyValue -/
namespace f68
def cuts : Nat → Nat → Option Outs := fun _ _ => none
def ccut : Nat → Nat → Option Outs := fun _ _ => none
def ety : Nat → Nat → Option Ty := fun _ _ => none
def args : List PSh := [.agg [.int .u8, .int .i64, .str, .sl .val .bor, .bool]]
def ta : List Ty := [(.int .u8), (.int .i64), .str, (.sl .val), .bool]
def res : List (Bool × List CSh) := [(true, [.int .u8, .int .i64, .str, .sl .val .d, .bool])]
def tr : List Ty := [(.int .u8), (.int .i64), .str, (.sl .val), .bool]
def E0 (N : Nat) (R : ((Int) × (Int) × (List UInt8) × (List (Val)) × Bool) → Option ((Int) × (Int) × (List UInt8) × (List (Val)) × Bool)) : SEnv := (SEnv.base tab cuts ccut ety).addCal 68 ⟨args, ta, res, tr, 0, R⟩
theorem ok0 (N : Nat) (R : ((Int) × (Int) × (List UInt8) × (List (Val)) × Bool) → Option ((Int) × (Int) × (List UInt8) × (List (Val)) × Bool)) (hR : CalOK tab 68 ⟨args, ta, res, tr, 0, R⟩) : EnvOK tab (E0 N R) := (base_ok tab cuts ccut ety).addCal hR
def T0_4 : Tmpl := ⟨[(1, .c (.ptr 0 1 0 0 0)), (2, .c (.ptr 0 2 1 0 0)), (10, .c (.ref 0 7 2 .val)), (11, .c (.int .i64)), (12, .c (.int .i64))], [], [(0, 1, .box 0 [.int .u8, .int .i64, .str, .ref 0 7 2 .val, .bool]), (0, 7, .row 2 .val), (0, 2, .box 1 [.int .u8, .int .i64, .str, .nil true, .bool])], 1, [], 3, [(.int .i64), (.int .i64), (.int .u8), (.int .i64), .str, .bool, (.sl .val), (.int .u8), (.int .i64), .str, .bool]⟩
def O0_4 : Outs := [(.exit 0, ⟨[(1, .c (.ptr 0 1 0 0 0)), (2, .c (.ptr 0 2 1 0 0))], [], [(0, 1, .box 0 [.int .u8, .int .i64, .str, .ref 0 7 2 .val, .bool]), (0, 7, .row 2 .val), (0, 2, .box 1 [.int .u8, .int .i64, .str, .nil true, .bool])], 1, [], 3, [(.int .u8), (.int .i64), .str, .bool, (.sl .val), (.int .u8), (.int .i64), .str, .bool]⟩)]
def L0_4 (N : Nat) (R : ((Int) × (Int) × (List UInt8) × (List (Val)) × Bool) → Option ((Int) × (Int) × (List UInt8) × (List (Val)) × Bool)) (k : Nat) (x : (Int) × (Int) × (Int) × (Int) × (List UInt8) × (Bool) × (List (Val)) × (Int) × (Int) × (List UInt8) × Bool) : Option (((Int) × (Int) × (List UInt8) × (Bool) × (List (Val)) × (Int) × (Int) × (List UInt8) × Bool)) := loopF (loopStep (E0 N R) fuelW 0 4 (bodyAt t68 4) T0_4 O0_4) k x
theorem L0_4_succ (N : Nat) (R : ((Int) × (Int) × (List UInt8) × (List (Val)) × Bool) → Option ((Int) × (Int) × (List UInt8) × (List (Val)) × Bool)) (k : Nat) (v0 : Int) (v1 : Int) (v2 : Int) (v3 : Int) (v4 : List UInt8) (v5 : Bool) (v6 : List (Val)) (v7 : Int) (v8 : Int) (v9 : List UInt8) (v10 : Bool) : L0_4 N R (k + 1) (v0, v1, v2, v3, v4, v5, v6, v7, v8, v9, v10) =
  (bif (decide (v1 < v0))
  then (chk (inR v1 v6.length)
    ((Option.bind (v6[(Int.toNat v1)]?) fun x11 =>
    (Option.bind (R (x11.kind, x11.int, x11.text, x11.list, x11.cut)) fun y12 =>
    (chk (inR v1 v6.length)
    ((Option.bind (v6[(Int.toNat v1)]?) fun x13 =>
    L0_4 N R k (v0, (wi64 (v1 + (1 : Int))), v2, v3, v4, v5, (v6.set (Int.toNat v1) (Val.mk y12.1 y12.2.1 y12.2.2.1 y12.2.2.2.1 y12.2.2.2.2)), v7, v8, v9, v10))))))))
  else some (v2, v3, v4, v5, v6, v7, v8, v9, v10)) := by kernel_rfl
def E1 (N : Nat) (R : ((Int) × (Int) × (List UInt8) × (List (Val)) × Bool) → Option ((Int) × (Int) × (List UInt8) × (List (Val)) × Bool)) : SEnv := (E0 N R).addLoop N 0 4 T0_4 O0_4
theorem ok1 (N : Nat) (R : ((Int) × (Int) × (List UInt8) × (List (Val)) × Bool) → Option ((Int) × (Int) × (List UInt8) × (List (Val)) × Bool)) (hR : CalOK tab 68 ⟨args, ta, res, tr, 0, R⟩) : EnvOK tab (E1 N R) := (ok0 N R hR).addLoop N 0 4 T0_4 O0_4
end f68
def F68 (N : Nat) (x : (Int) × (Int) × (List UInt8) × (List (Val)) × Bool) : Option ((Int) × (Int) × (List UInt8) × (List (Val)) × Bool) := fixF (fun N R x => fnRun (f68.E1 N R) fuelW 68 f68.args f68.ta f68.res f68.tr 0 x) N x
open f68 in
theorem F68_eq (N : Nat) (p0 : Int) (p1 : Int) (p2 : List UInt8) (p3 : List (Val)) (p4 : Bool) : F68 (N + 1) (p0, p1, p2, p3, p4) =
  (chk (room p3.length 64)
  ((Option.bind (L0_4 N (F68 N) N ((p3.length : Int), (0 : Int), p0, p1, p2, p4, p3, (0 : Int), (0 : Int), ([] : List UInt8), false)) fun y14 =>
  some (y14.1, y14.2.1, y14.2.2.1, y14.2.2.2.2.1, y14.2.2.2.1)))) := by kernel_rfl
theorem F68_zero (x : (Int) × (Int) × (List UInt8) × (List (Val)) × Bool) : F68 0 x = none := rfl
def c68 (N : Nat) : Sym.Callee := ⟨f68.args, f68.ta, f68.res, f68.tr, 0, F68 N⟩
theorem ok68 : ∀ N : Nat, CalOK tab 68 (c68 N)
  | 0 => fun _ _ h => by cases h
  | N + 1 => fn_ok (f68.ok1 N (F68 N) (ok68 N)) fuelW 68 f68.args f68.ta f68.res f68.tr 0

/- wreckage/differ.copyRoutine -/
namespace f33
def cuts : Nat → Nat → Option Outs := fun _ _ => none
def ccut : Nat → Nat → Option Outs := fun _ _ => none
def ety : Nat → Nat → Option Ty := fun _ _ => none
def args : List PSh := [.agg [.int .u8, .int .i64, .sl TFrameState .bor, .sl TDeferState .bor, .sl TPanicState .bor]]
def ta : List Ty := [(.int .u8), (.int .i64), (.sl TFrameState), (.sl TDeferState), (.sl TPanicState)]
def res : List (Bool × List CSh) := [(true, [.int .u8, .int .i64, .sl TFrameState .d, .sl TDeferState .d, .sl TPanicState .d])]
def tr : List Ty := [(.int .u8), (.int .i64), (.sl TFrameState), (.sl TDeferState), (.sl TPanicState)]
def E0 (N : Nat) : SEnv := (SEnv.base tab cuts ccut ety).addCal 68 (c68 N)
theorem ok0 (N : Nat) : EnvOK tab (E0 N) := (base_ok tab cuts ccut ety).addCal (ok68 N)
def T0_12 : Tmpl := ⟨[(1, .c (.ptr 0 1 0 0 0)), (2, .c (.ptr 0 2 1 0 0)), (3, .c (.int .i64)), (4, .c (.ref 0 32 2 TLocal)), (22, .c (.int .i64)), (23, .c (.int .i64)), (34, .c (.int .i64)), (35, .c (.int .i64))], [], [(0, 1, .box 0 [.int .u8, .int .i64, .ref 0 10 3 TFrameState, .ref 0 13 4 TDeferState, .ref 0 16 5 TPanicState]), (0, 10, .row 3 TFrameState), (0, 13, .row 4 TDeferState), (0, 16, .row 5 TPanicState), (0, 2, .box 1 [.int .u8, .int .i64, .nil true, .nil true, .nil true]), (0, 32, .row 2 TLocal)], 1, [], 6, [(.int .i64), (.int .i64), (.int .i64), (.int .i64), (.int .i64), (.int .u8), (.int .i64), (.sl TFrameState), (.sl TDeferState), (.sl TPanicState), (.int .u8), (.int .i64), (.sl TLocal)]⟩
def O0_12 : Outs := [(.exit 2, ⟨[(1, .c (.ptr 0 1 0 0 0)), (2, .c (.ptr 0 2 1 0 0)), (3, .c (.int .i64)), (4, .c (.ref 0 32 2 TLocal)), (22, .c (.int .i64)), (23, .c (.int .i64))], [], [(0, 1, .box 0 [.int .u8, .int .i64, .ref 0 10 3 TFrameState, .ref 0 13 4 TDeferState, .ref 0 16 5 TPanicState]), (0, 10, .row 3 TFrameState), (0, 13, .row 4 TDeferState), (0, 16, .row 5 TPanicState), (0, 2, .box 1 [.int .u8, .int .i64, .nil true, .nil true, .nil true]), (0, 32, .row 2 TLocal)], 1, [], 6, [(.int .i64), (.int .i64), (.int .i64), (.int .u8), (.int .i64), (.sl TFrameState), (.sl TDeferState), (.sl TPanicState), (.int .u8), (.int .i64), (.sl TLocal)]⟩)]
def L0_12 (N : Nat) (k : Nat) (x : (Int) × (Int) × (Int) × (Int) × (Int) × (Int) × (Int) × (List (FrameState)) × (List (DeferState)) × (List (PanicState)) × (Int) × (Int) × List (Local)) : Option (((Int) × (Int) × (Int) × (Int) × (Int) × (List (FrameState)) × (List (DeferState)) × (List (PanicState)) × (Int) × (Int) × List (Local))) := loopF (loopStep (E0 N) fuelW 0 12 (bodyAt t33 12) T0_12 O0_12) k x
theorem L0_12_succ (N : Nat) (k : Nat) (v10 : Int) (v11 : Int) (v12 : Int) (v13 : Int) (v14 : Int) (v15 : Int) (v16 : Int) (v17 : List (FrameState)) (v18 : List (DeferState)) (v19 : List (PanicState)) (v20 : Int) (v21 : Int) (v22 : List (Local)) : L0_12 N (k + 1) (v10, v11, v12, v13, v14, v15, v16, v17, v18, v19, v20, v21, v22) =
  (bif (decide (v14 < v13))
  then (chk (inR v14 v22.length)
    ((Option.bind (v22[(Int.toNat v14)]?) fun x23 =>
    (Option.bind (F68 N (x23.2.kind, x23.2.int, x23.2.text, x23.2.list, x23.2.cut)) fun y24 =>
    (chk (inR v14 v22.length)
    ((Option.bind (v22[(Int.toNat v14)]?) fun x25 =>
    L0_12 N k (v10, v11, v12, v13, (wi64 (v14 + (1 : Int))), v15, v16, v17, v18, v19, v20, v21, (v22.set (Int.toNat v14) (x25.1, (Val.mk y24.1 y24.2.1 y24.2.2.1 y24.2.2.2.1 y24.2.2.2.2)))))))))))
  else some (v10, v11, v12, v15, v16, v17, v18, v19, v20, v21, v22)) := by kernel_rfl
def E1 (N : Nat) : SEnv := (E0 N).addLoop N 0 12 T0_12 O0_12
theorem ok1 (N : Nat) : EnvOK tab (E1 N) := (ok0 N).addLoop N 0 12 T0_12 O0_12
def T0_4 : Tmpl := ⟨[(1, .c (.ptr 0 1 0 0 0)), (2, .c (.ptr 0 2 1 0 0)), (22, .c (.int .i64)), (23, .c (.int .i64))], [], [(0, 1, .box 0 [.int .u8, .int .i64, .ref 0 10 2 TFrameState, .ref 0 13 3 TDeferState, .ref 0 16 4 TPanicState]), (0, 10, .row 2 TFrameState), (0, 13, .row 3 TDeferState), (0, 16, .row 4 TPanicState), (0, 2, .box 1 [.int .u8, .int .i64, .nil true, .nil true, .nil true])], 1, [], 5, [(.int .i64), (.int .i64), (.int .u8), (.int .i64), (.sl TFrameState), (.sl TDeferState), (.sl TPanicState), (.int .u8), (.int .i64)]⟩
def O0_4 : Outs := [(.exit 0, ⟨[(1, .c (.ptr 0 1 0 0 0)), (2, .c (.ptr 0 2 1 0 0))], [], [(0, 1, .box 0 [.int .u8, .int .i64, .ref 0 10 2 TFrameState, .ref 0 13 3 TDeferState, .ref 0 16 4 TPanicState]), (0, 10, .row 2 TFrameState), (0, 13, .row 3 TDeferState), (0, 16, .row 4 TPanicState), (0, 2, .box 1 [.int .u8, .int .i64, .nil true, .nil true, .nil true])], 1, [], 5, [(.int .u8), (.int .i64), (.sl TFrameState), (.sl TDeferState), (.sl TPanicState), (.int .u8), (.int .i64)]⟩)]
def L0_4 (N : Nat) (k : Nat) (x : (Int) × (Int) × (Int) × (Int) × (List (FrameState)) × (List (DeferState)) × (List (PanicState)) × (Int) × Int) : Option (((Int) × (Int) × (List (FrameState)) × (List (DeferState)) × (List (PanicState)) × (Int) × Int)) := loopF (loopStep (E1 N) fuelW 0 4 (bodyAt t33 4) T0_4 O0_4) k x
theorem L0_4_succ (N : Nat) (k : Nat) (v0 : Int) (v1 : Int) (v2 : Int) (v3 : Int) (v4 : List (FrameState)) (v5 : List (DeferState)) (v6 : List (PanicState)) (v7 : Int) (v8 : Int) : L0_4 N (k + 1) (v0, v1, v2, v3, v4, v5, v6, v7, v8) =
  (bif (decide (v1 < v0))
  then (chk (inR v1 v4.length)
    ((Option.bind (v4[(Int.toNat v1)]?) fun x9 =>
    (chk (room x9.2.2.2.length 72)
    ((Option.bind (L0_12 N N (v1, v0, v1, (x9.2.2.2.length : Int), (0 : Int), v2, v3, v4, v5, v6, v7, v8, x9.2.2.2)) fun y26 =>
    (chk (inR y26.1 y26.2.2.2.2.2.1.length)
    ((Option.bind (y26.2.2.2.2.2.1[(Int.toNat y26.1)]?) fun x27 =>
    L0_4 N k (y26.2.1, (wi64 (y26.2.2.1 + (1 : Int))), y26.2.2.2.1, y26.2.2.2.2.1, (y26.2.2.2.2.2.1.set (Int.toNat y26.1) (x27.1, x27.2.1, x27.2.2.1, y26.2.2.2.2.2.2.2.2.2.2)), y26.2.2.2.2.2.2.1, y26.2.2.2.2.2.2.2.1, y26.2.2.2.2.2.2.2.2.1, y26.2.2.2.2.2.2.2.2.2.1))))))))))
  else some (v2, v3, v4, v5, v6, v7, v8)) := by kernel_rfl
def E2 (N : Nat) : SEnv := (E1 N).addLoop N 0 4 T0_4 O0_4
theorem ok2 (N : Nat) : EnvOK tab (E2 N) := (ok1 N).addLoop N 0 4 T0_4 O0_4
def T0_23 : Tmpl := ⟨[(1, .c (.ptr 0 1 0 0 0)), (2, .c (.ptr 0 2 1 0 0)), (58, .c (.int .i64)), (59, .c (.int .i64))], [], [(0, 1, .box 0 [.int .u8, .int .i64, .ref 0 10 2 TFrameState, .ref 0 13 3 TDeferState, .ref 0 16 4 TPanicState]), (0, 10, .row 2 TFrameState), (0, 13, .row 3 TDeferState), (0, 16, .row 4 TPanicState), (0, 2, .box 1 [.int .u8, .int .i64, .nil true, .nil true, .nil true])], 1, [], 5, [(.int .i64), (.int .i64), (.int .u8), (.int .i64), (.sl TFrameState), (.sl TDeferState), (.sl TPanicState), (.int .u8), (.int .i64)]⟩
def O0_23 : Outs := [(.exit 4, ⟨[(1, .c (.ptr 0 1 0 0 0)), (2, .c (.ptr 0 2 1 0 0))], [], [(0, 1, .box 0 [.int .u8, .int .i64, .ref 0 10 2 TFrameState, .ref 0 13 3 TDeferState, .ref 0 16 4 TPanicState]), (0, 10, .row 2 TFrameState), (0, 13, .row 3 TDeferState), (0, 16, .row 4 TPanicState), (0, 2, .box 1 [.int .u8, .int .i64, .nil true, .nil true, .nil true])], 1, [], 5, [(.int .u8), (.int .i64), (.sl TFrameState), (.sl TDeferState), (.sl TPanicState), (.int .u8), (.int .i64)]⟩)]
def L0_23 (N : Nat) (k : Nat) (x : (Int) × (Int) × (Int) × (Int) × (List (FrameState)) × (List (DeferState)) × (List (PanicState)) × (Int) × Int) : Option (((Int) × (Int) × (List (FrameState)) × (List (DeferState)) × (List (PanicState)) × (Int) × Int)) := loopF (loopStep (E2 N) fuelW 0 23 (bodyAt t33 23) T0_23 O0_23) k x
theorem L0_23_succ (N : Nat) (k : Nat) (v29 : Int) (v30 : Int) (v31 : Int) (v32 : Int) (v33 : List (FrameState)) (v34 : List (DeferState)) (v35 : List (PanicState)) (v36 : Int) (v37 : Int) : L0_23 N (k + 1) (v29, v30, v31, v32, v33, v34, v35, v36, v37) =
  (bif (decide (v30 < v29))
  then (chk (inR v30 v34.length)
    ((Option.bind (v34[(Int.toNat v30)]?) fun x38 =>
    (Option.bind (F68 N (x38.2.2.2.kind, x38.2.2.2.int, x38.2.2.2.text, x38.2.2.2.list, x38.2.2.2.cut)) fun y39 =>
    (chk (inR v30 v34.length)
    ((Option.bind (v34[(Int.toNat v30)]?) fun x40 =>
    L0_23 N k (v29, (wi64 (v30 + (1 : Int))), v31, v32, v33, (v34.set (Int.toNat v30) (x40.1, x40.2.1, x40.2.2.1, (Val.mk y39.1 y39.2.1 y39.2.2.1 y39.2.2.2.1 y39.2.2.2.2))), v35, v36, v37))))))))
  else some (v31, v32, v33, v34, v35, v36, v37)) := by kernel_rfl
def E3 (N : Nat) : SEnv := (E2 N).addLoop N 0 23 T0_23 O0_23
theorem ok3 (N : Nat) : EnvOK tab (E3 N) := (ok2 N).addLoop N 0 23 T0_23 O0_23
def T0_32 : Tmpl := ⟨[(1, .c (.ptr 0 1 0 0 0)), (2, .c (.ptr 0 2 1 0 0)), (77, .c (.int .i64)), (78, .c (.int .i64))], [], [(0, 1, .box 0 [.int .u8, .int .i64, .ref 0 10 2 TFrameState, .ref 0 13 3 TDeferState, .ref 0 16 4 TPanicState]), (0, 10, .row 2 TFrameState), (0, 13, .row 3 TDeferState), (0, 16, .row 4 TPanicState), (0, 2, .box 1 [.int .u8, .int .i64, .nil true, .nil true, .nil true])], 1, [], 5, [(.int .i64), (.int .i64), (.int .u8), (.int .i64), (.sl TFrameState), (.sl TDeferState), (.sl TPanicState), (.int .u8), (.int .i64)]⟩
def O0_32 : Outs := [(.exit 6, ⟨[(1, .c (.ptr 0 1 0 0 0)), (2, .c (.ptr 0 2 1 0 0))], [], [(0, 1, .box 0 [.int .u8, .int .i64, .ref 0 10 2 TFrameState, .ref 0 13 3 TDeferState, .ref 0 16 4 TPanicState]), (0, 10, .row 2 TFrameState), (0, 13, .row 3 TDeferState), (0, 16, .row 4 TPanicState), (0, 2, .box 1 [.int .u8, .int .i64, .nil true, .nil true, .nil true])], 1, [], 5, [(.int .u8), (.int .i64), (.sl TFrameState), (.sl TDeferState), (.sl TPanicState), (.int .u8), (.int .i64)]⟩)]
def L0_32 (N : Nat) (k : Nat) (x : (Int) × (Int) × (Int) × (Int) × (List (FrameState)) × (List (DeferState)) × (List (PanicState)) × (Int) × Int) : Option (((Int) × (Int) × (List (FrameState)) × (List (DeferState)) × (List (PanicState)) × (Int) × Int)) := loopF (loopStep (E3 N) fuelW 0 32 (bodyAt t33 32) T0_32 O0_32) k x
theorem L0_32_succ (N : Nat) (k : Nat) (v42 : Int) (v43 : Int) (v44 : Int) (v45 : Int) (v46 : List (FrameState)) (v47 : List (DeferState)) (v48 : List (PanicState)) (v49 : Int) (v50 : Int) : L0_32 N (k + 1) (v42, v43, v44, v45, v46, v47, v48, v49, v50) =
  (bif (decide (v43 < v42))
  then (chk (inR v43 v48.length)
    ((Option.bind (v48[(Int.toNat v43)]?) fun x51 =>
    (Option.bind (F68 N (x51.2.1.kind, x51.2.1.int, x51.2.1.text, x51.2.1.list, x51.2.1.cut)) fun y52 =>
    (chk (inR v43 v48.length)
    ((Option.bind (v48[(Int.toNat v43)]?) fun x53 =>
    L0_32 N k (v42, (wi64 (v43 + (1 : Int))), v44, v45, v46, v47, (v48.set (Int.toNat v43) (x53.1, (Val.mk y52.1 y52.2.1 y52.2.2.1 y52.2.2.2.1 y52.2.2.2.2), x53.2.2)), v49, v50))))))))
  else some (v44, v45, v46, v47, v48, v49, v50)) := by kernel_rfl
def E4 (N : Nat) : SEnv := (E3 N).addLoop N 0 32 T0_32 O0_32
theorem ok4 (N : Nat) : EnvOK tab (E4 N) := (ok3 N).addLoop N 0 32 T0_32 O0_32
end f33
def F33 (N : Nat) (x : (Int) × (Int) × (List (FrameState)) × (List (DeferState)) × List (PanicState)) : Option ((Int) × (Int) × (List (FrameState)) × (List (DeferState)) × List (PanicState)) := fnRun (f33.E4 N) fuelW 33 f33.args f33.ta f33.res f33.tr 0 x
open f33 in
theorem F33_eq (N : Nat) (p0 : Int) (p1 : Int) (p2 : List (FrameState)) (p3 : List (DeferState)) (p4 : List (PanicState)) : F33 N (p0, p1, p2, p3, p4) =
  (chk (room p2.length 48)
  ((chk (room p3.length 88)
  ((chk (room p4.length 80)
  ((Option.bind (L0_4 N N ((p2.length : Int), (0 : Int), p0, p1, p2, p3, p4, (0 : Int), (0 : Int))) fun y28 =>
  (Option.bind (L0_23 N N ((y28.2.2.2.1.length : Int), (0 : Int), y28.1, y28.2.1, y28.2.2.1, y28.2.2.2.1, y28.2.2.2.2.1, y28.2.2.2.2.2.1, y28.2.2.2.2.2.2)) fun y41 =>
  (Option.bind (L0_32 N N ((y41.2.2.2.2.1.length : Int), (0 : Int), y41.1, y41.2.1, y41.2.2.1, y41.2.2.2.1, y41.2.2.2.2.1, y41.2.2.2.2.2.1, y41.2.2.2.2.2.2)) fun y54 =>
  some (y54.1, y54.2.1, y54.2.2.1, y54.2.2.2.1, y54.2.2.2.2.1)))))))))) := by kernel_rfl
def c33 (N : Nat) : Sym.Callee := ⟨f33.args, f33.ta, f33.res, f33.tr, 0, F33 N⟩
theorem ok33 (N : Nat) : CalOK tab 33 (c33 N) := fn_ok (f33.ok4 N) fuelW 33 f33.args f33.ta f33.res f33.tr 0

/- wreckage/differ.copyState -/
namespace f42
def cuts : Nat → Nat → Option Outs := fun _ _ => none
def ccut : Nat → Nat → Option Outs := fun _ _ => none
def ety : Nat → Nat → Option Ty := fun _ _ => none
def args : List PSh := [.agg [.int .u8, .int .i64, .int .i64, .sl TRoutineState .bor]]
def ta : List Ty := [(.int .u8), (.int .i64), (.int .i64), (.sl TRoutineState)]
def res : List (Bool × List CSh) := [(true, [.int .u8, .int .i64, .int .i64, .sl TRoutineState .d])]
def tr : List Ty := [(.int .u8), (.int .i64), (.int .i64), (.sl TRoutineState)]
def E0 (N : Nat) : SEnv := (SEnv.base tab cuts ccut ety).addCal 33 (c33 N)
theorem ok0 (N : Nat) : EnvOK tab (E0 N) := (base_ok tab cuts ccut ety).addCal (ok33 N)
def T0_4 : Tmpl := ⟨[(1, .c (.ptr 0 1 0 0 0)), (2, .c (.ptr 0 2 1 0 0)), (10, .c (.ref 0 7 2 TRoutineState)), (11, .c (.int .i64)), (12, .c (.int .i64))], [], [(0, 1, .box 0 [.int .u8, .int .i64, .int .i64, .ref 0 7 2 TRoutineState]), (0, 7, .row 2 TRoutineState), (0, 2, .box 1 [.int .u8, .int .i64, .int .i64, .nil true])], 1, [], 3, [(.int .i64), (.int .i64), (.int .u8), (.int .i64), (.int .i64), (.sl TRoutineState), (.int .u8), (.int .i64), (.int .i64)]⟩
def O0_4 : Outs := [(.exit 0, ⟨[(1, .c (.ptr 0 1 0 0 0)), (2, .c (.ptr 0 2 1 0 0))], [], [(0, 1, .box 0 [.int .u8, .int .i64, .int .i64, .ref 0 7 2 TRoutineState]), (0, 7, .row 2 TRoutineState), (0, 2, .box 1 [.int .u8, .int .i64, .int .i64, .nil true])], 1, [], 3, [(.int .u8), (.int .i64), (.int .i64), (.sl TRoutineState), (.int .u8), (.int .i64), (.int .i64)]⟩)]
def L0_4 (N : Nat) (k : Nat) (x : (Int) × (Int) × (Int) × (Int) × (Int) × (List (RoutineState)) × (Int) × (Int) × Int) : Option (((Int) × (Int) × (Int) × (List (RoutineState)) × (Int) × (Int) × Int)) := loopF (loopStep (E0 N) fuelW 0 4 (bodyAt t42 4) T0_4 O0_4) k x
theorem L0_4_succ (N : Nat) (k : Nat) (v0 : Int) (v1 : Int) (v2 : Int) (v3 : Int) (v4 : Int) (v5 : List (RoutineState)) (v6 : Int) (v7 : Int) (v8 : Int) : L0_4 N (k + 1) (v0, v1, v2, v3, v4, v5, v6, v7, v8) =
  (bif (decide (v1 < v0))
  then (chk (inR v1 v5.length)
    ((Option.bind (v5[(Int.toNat v1)]?) fun x9 =>
    (Option.bind (F33 N (x9.1, x9.2.1, x9.2.2.1, x9.2.2.2.1, x9.2.2.2.2)) fun y10 =>
    (chk (inR v1 v5.length)
    ((Option.bind (v5[(Int.toNat v1)]?) fun x11 =>
    L0_4 N k (v0, (wi64 (v1 + (1 : Int))), v2, v3, v4, (v5.set (Int.toNat v1) y10), v6, v7, v8))))))))
  else some (v2, v3, v4, v5, v6, v7, v8)) := by kernel_rfl
def E1 (N : Nat) : SEnv := (E0 N).addLoop N 0 4 T0_4 O0_4
theorem ok1 (N : Nat) : EnvOK tab (E1 N) := (ok0 N).addLoop N 0 4 T0_4 O0_4
end f42
def F42 (N : Nat) (x : (Int) × (Int) × (Int) × List (RoutineState)) : Option ((Int) × (Int) × (Int) × List (RoutineState)) := fnRun (f42.E1 N) fuelW 42 f42.args f42.ta f42.res f42.tr 4 x
open f42 in
theorem F42_eq (N : Nat) (p0 : Int) (p1 : Int) (p2 : Int) (p3 : List (RoutineState)) : F42 N (p0, p1, p2, p3) =
  (chk (room p3.length 88)
  ((Option.bind (L0_4 N N ((p3.length : Int), (0 : Int), p0, p1, p2, p3, (0 : Int), (0 : Int), (0 : Int))) fun y12 =>
  some (y12.1, y12.2.1, y12.2.2.1, y12.2.2.2.1)))) := by kernel_rfl
def c42 (N : Nat) : Sym.Callee := ⟨f42.args, f42.ta, f42.res, f42.tr, 4, F42 N⟩
theorem ok42 (N : Nat) : CalOK tab 42 (c42 N) := fn_ok (f42.ok1 N) fuelW 42 f42.args f42.ta f42.res f42.tr 4

/- slices.Concat[[]wreckage/api.FrameState,wreckage/api.FrameState] -/
namespace f74
def cuts : Nat → Nat → Option Outs := fun _ _ => none
def ccut : Nat → Nat → Option Outs := fun _ _ => none
def ety : Nat → Nat → Option Ty := fun c d => match c, d with
  | 1024000, 4 => some TFrameState
  | 1024000, 22 => some TFrameState
  | _, _ => none
def args : List PSh := [.c (.sl (.sl TFrameState) .bor)]
def ta : List Ty := [(.sl (.sl TFrameState))]
def res : List (Bool × List CSh) := [(false, [.sl TFrameState .d])]
def tr : List Ty := [(.sl TFrameState)]
def E0 (N : Nat) : SEnv := SEnv.base tab cuts ccut ety
theorem ok0 (N : Nat) : EnvOK tab (E0 N) := base_ok tab cuts ccut ety
def T0_4 : Tmpl := ⟨[(0, .c (.sl (.sl TFrameState) .bor)), (3, .c (.int .i64)), (9, .c (.sl (.sl TFrameState) .bor)), (10, .c (.int .i64)), (11, .c (.int .i64))], [], [], 1, [], 0, [(.sl (.sl TFrameState)), (.int .i64), (.sl (.sl TFrameState)), (.int .i64), (.int .i64)]⟩
def O0_4 : Outs := [(.exit 0, ⟨[(0, .c (.sl (.sl TFrameState) .bor)), (3, .c (.int .i64))], [], [], 1, [], 0, [(.sl (.sl TFrameState)), (.int .i64)]⟩)]
def L0_4 (N : Nat) (k : Nat) (x : (List (List (FrameState))) × (Int) × (List (List (FrameState))) × (Int) × Int) : Option (((List (List (FrameState))) × Int)) := loopF (loopStep (E0 N) fuelW 0 4 (bodyAt t74 4) T0_4 O0_4) k x
theorem L0_4_succ (N : Nat) (k : Nat) (v0 : List (List (FrameState))) (v1 : Int) (v2 : List (List (FrameState))) (v3 : Int) (v4 : Int) : L0_4 N (k + 1) (v0, v1, v2, v3, v4) =
  (bif (decide (v4 < v3))
  then (Option.bind (idx v2 v4) fun x5 =>
    (bif (decide ((wi64 (v1 + (x5.length : Int))) < (0 : Int)))
    then none
    else L0_4 N k (v0, (wi64 (v1 + (x5.length : Int))), v2, v3, (wi64 (v4 + (1 : Int))))))
  else some (v0, v1)) := by kernel_rfl
def E1 (N : Nat) : SEnv := (E0 N).addLoop N 0 4 T0_4 O0_4
theorem ok1 (N : Nat) : EnvOK tab (E1 N) := (ok0 N).addLoop N 0 4 T0_4 O0_4
def T0_17 : Tmpl := ⟨[(6, .c (.ref 0 24 0 TFrameState)), (25, .c (.sl (.sl TFrameState) .bor)), (26, .c (.int .i64)), (27, .c (.int .i64))], [], [(0, 24, .row 0 TFrameState)], 1, [], 1, [(.sl (.sl TFrameState)), (.int .i64), (.int .i64), (.sl TFrameState)]⟩
def O0_17 : Outs := [(.exit 2, ⟨[(6, .c (.ref 0 24 0 TFrameState))], [], [(0, 24, .row 0 TFrameState)], 1, [], 1, [(.sl TFrameState)]⟩)]
def L0_17 (N : Nat) (k : Nat) (x : (List (List (FrameState))) × (Int) × (Int) × List (FrameState)) : Option ((List (FrameState))) := loopF (loopStep (E1 N) fuelW 0 17 (bodyAt t74 17) T0_17 O0_17) k x
theorem L0_17_succ (N : Nat) (k : Nat) (v7 : List (List (FrameState))) (v8 : Int) (v9 : Int) (v10 : List (FrameState)) : L0_17 N (k + 1) (v7, v8, v9, v10) =
  (bif (decide (v9 < v8))
  then (Option.bind (idx v7 v9) fun x11 =>
    (chk (room (v10.length + x11.length) 48)
    (L0_17 N k (v7, v8, (wi64 (v9 + (1 : Int))), (v10 ++ x11)))))
  else some v10) := by kernel_rfl
def E2 (N : Nat) : SEnv := (E1 N).addLoop N 0 17 T0_17 O0_17
theorem ok2 (N : Nat) : EnvOK tab (E2 N) := (ok1 N).addLoop N 0 17 T0_17 O0_17
end f74
def F74 (N : Nat) (x : List (List (FrameState))) : Option (List (FrameState)) := fnRun (f74.E2 N) fuelW 74 f74.args f74.ta f74.res f74.tr 0 x
open f74 in
theorem F74_eq (N : Nat) (p0 : List (List (FrameState))) : F74 N p0 =
  (Option.bind (L0_4 N N (p0, (0 : Int), p0, (p0.length : Int), (0 : Int))) fun y6 =>
  (bif (decide (y6.2 < (0 : Int)))
  then none
  else (bif (decide ((wi64 (y6.2 - (wi64 ((0 : Int) - (0 : Int))))) > (0 : Int)))
    then (chk (decide (0 ≤ 0))
      ((chk (decide (0 ≤ (wi64 (y6.2 - (wi64 ((0 : Int) - (0 : Int)))))))
      ((chk (room (Int.toNat (wi64 (y6.2 - (wi64 ((0 : Int) - (0 : Int)))))) 48)
      ((chk (room (List.replicate (Int.toNat (wi64 (y6.2 - (wi64 ((0 : Int) - (0 : Int)))))) (((0 : Int), (0 : Int), (0 : Int), []) : (Int) × ((Int) × ((Int) × (List ((Int) × (Val))))))).length 48)
      ((chk (decide (0 ≤ (List.replicate (Int.toNat (wi64 (y6.2 - (wi64 ((0 : Int) - (0 : Int)))))) (((0 : Int), (0 : Int), (0 : Int), []) : (Int) × ((Int) × ((Int) × (List ((Int) × (Val))))))).length))
      ((Option.bind (L0_17 N N (y6.1, (y6.1.length : Int), (0 : Int), (((List.replicate (Int.toNat (wi64 (y6.2 - (wi64 ((0 : Int) - (0 : Int)))))) (((0 : Int), (0 : Int), (0 : Int), []) : (Int) × ((Int) × ((Int) × (List ((Int) × (Val))))))).drop 0).take (0 - 0)))) fun y12 =>
      some y12)))))))))))
    else (Option.bind (L0_17 N N (y6.1, (y6.1.length : Int), (0 : Int), ([] : List ((Int) × ((Int) × ((Int) × (List ((Int) × (Val))))))))) fun y13 =>
      some y13)))) := by kernel_rfl
def c74 (N : Nat) : Sym.Callee := ⟨f74.args, f74.ta, f74.res, f74.tr, 0, F74 N⟩
theorem ok74 (N : Nat) : CalOK tab 74 (c74 N) := fn_ok (f74.ok2 N) fuelW 74 f74.args f74.ta f74.res f74.tr 0

/- wreckage/differ.Apply -/
namespace f18
def cuts : Nat → Nat → Option Outs := fun _ _ => none
def ccut : Nat → Nat → Option Outs := fun _ _ => none
def ety : Nat → Nat → Option Ty := fun c d => match c, d with
  | 1030000, 38 => some TRoutineState
  | 1030000, 97 => some (.sl TFrameState)
  | _, _ => none
def args : List PSh := [.agg [.int .u8, .int .i64, .int .i64, .sl TRoutineState .bor], .c (.sl TEdit .bor)]
def ta : List Ty := [(.int .u8), (.int .i64), (.int .i64), (.sl TRoutineState), (.sl TEdit)]
def res : List (Bool × List CSh) := [(true, [.int .u8, .int .i64, .int .i64, .sl TRoutineState .d]), (false, [.int .i64])]
def tr : List Ty := [(.int .u8), (.int .i64), (.int .i64), (.sl TRoutineState), (.int .i64)]
def E0 (N : Nat) : SEnv := (((((SEnv.base tab cuts ccut ety).addCal 31 (c31 N)).addCal 41 (c41 N)).addCal 42 (c42 N)).addCal 33 (c33 N)).addCal 74 (c74 N)
theorem ok0 (N : Nat) : EnvOK tab (E0 N) := (((((base_ok tab cuts ccut ety).addCal (ok31 N)).addCal (ok41 N)).addCal (ok42 N)).addCal (ok33 N)).addCal (ok74 N)
def T0_11 : Tmpl := ⟨[(4, .c (.ptr 0 4 0 0 0)), (7, .c (.ptr 0 7 1 0 0)), (23, .c (.sl TEdit .bor)), (24, .c (.int .i64)), (25, .c (.int .i64))], [], [(0, 4, .box 0 [.int .u8, .int .i64, .int .i64, .nil true]), (0, 7, .box 1 [.int .u8, .int .i64, .int .i64, .ref 0 22 2 TRoutineState]), (0, 22, .row 2 TRoutineState)], 1, [], 3, [(.sl TEdit), (.int .i64), (.int .i64), (.int .u8), (.int .i64), (.int .i64), (.int .u8), (.int .i64), (.int .i64), (.sl TRoutineState)]⟩
def O0_11 : Outs := [(.ret, ⟨[(4, .c (.ptr 0 4 0 0 0)), (5, .c (.int .i64))], [], [(0, 4, .box 0 [.int .u8, .int .i64, .int .i64, .nil true])], 1, [], 1, [(.int .i64), (.int .u8), (.int .i64), (.int .i64)]⟩), (.exit 0, ⟨[(4, .c (.ptr 0 4 0 0 0)), (7, .c (.ptr 0 7 1 0 0))], [], [(0, 4, .box 0 [.int .u8, .int .i64, .int .i64, .nil true]), (0, 7, .box 1 [.int .u8, .int .i64, .int .i64, .ref 0 22 2 TRoutineState]), (0, 22, .row 2 TRoutineState)], 1, [], 3, [(.int .u8), (.int .i64), (.int .i64), (.int .u8), (.int .i64), (.int .i64), (.sl TRoutineState)]⟩)]
def L0_11 (N : Nat) (k : Nat) (x : (List (Edit)) × (Int) × (Int) × (Int) × (Int) × (Int) × (Int) × (Int) × (Int) × List (RoutineState)) : Option (((Int) × (Int) × (Int) × Int) ⊕ ((Int) × (Int) × (Int) × (Int) × (Int) × (Int) × List (RoutineState))) := loopF (loopStep (E0 N) fuelW 0 11 (bodyAt t18 11) T0_11 O0_11) k x
theorem L0_11_succ (N : Nat) (k : Nat) (v3 : List (Edit)) (v4 : Int) (v5 : Int) (v6 : Int) (v7 : Int) (v8 : Int) (v9 : Int) (v10 : Int) (v11 : Int) (v12 : List (RoutineState)) : L0_11 N (k + 1) (v3, v4, v5, v6, v7, v8, v9, v10, v11, v12) =
  (bif (decide (v5 < v4))
  then (Option.bind (idx v3 v5) fun x13 =>
    (Option.bind (F33 N (x13.2.2.2.2.2.2.1, x13.2.2.2.2.2.2.2.1, x13.2.2.2.2.2.2.2.2.1, x13.2.2.2.2.2.2.2.2.2.1, x13.2.2.2.2.2.2.2.2.2.2)) fun y14 =>
    (bif (x13.1 == (1 : Int))
    then L0_11 N k (v3, v4, (wi64 (v5 + (1 : Int))), v6, v7, v8, x13.2.2.2.1, x13.2.2.2.2.1, x13.2.2.2.2.2.1, v12)
    else (bif (x13.1 == (7 : Int))
      then (chk (room (v12.length + 1) 88)
        ((Option.bind (F31 N [(v9, v10, v11, (v12 ++ [y14]))]) fun y15 =>
        (bif (!y15)
        then some (Sum.inl ((2 : Int), (0 : Int), (0 : Int), (0 : Int)))
        else L0_11 N k (v3, v4, (wi64 (v5 + (1 : Int))), v6, v7, v8, v9, v10, v11, (v12 ++ [y14]))))))
      else (bif (decide (x13.2.1 ≥ (v12.length : Int)))
        then some (Sum.inl ((2 : Int), (0 : Int), (0 : Int), (0 : Int)))
        else (chk (inR x13.2.1 v12.length)
          ((bif (x13.1 == (2 : Int))
          then (Option.bind (v12[(Int.toNat x13.2.1)]?) fun x16 =>
            (Option.bind ((v12.set (Int.toNat x13.2.1) (y14.1, x16.2))[(Int.toNat x13.2.1)]?) fun x17 =>
            (Option.bind (F31 N [(v9, v10, v11, ((v12.set (Int.toNat x13.2.1) (y14.1, x16.2)).set (Int.toNat x13.2.1) (x17.1, y14.2.1, x17.2.2)))]) fun y18 =>
            (bif (!y18)
            then some (Sum.inl ((2 : Int), (0 : Int), (0 : Int), (0 : Int)))
            else L0_11 N k (v3, v4, (wi64 (v5 + (1 : Int))), v6, v7, v8, v9, v10, v11, ((v12.set (Int.toNat x13.2.1) (y14.1, x16.2)).set (Int.toNat x13.2.1) (x17.1, y14.2.1, x17.2.2)))))))
          else (bif (x13.1 == (3 : Int))
            then (Option.bind (v12[(Int.toNat x13.2.1)]?) fun x19 =>
              (bif (decide ((wi64 ((x19.2.2.1.length : Int) - x13.2.2.1)) < (0 : Int)))
              then some (Sum.inl ((2 : Int), (0 : Int), (0 : Int), (0 : Int)))
              else (Option.bind (v12[(Int.toNat x13.2.1)]?) fun x20 =>
                (chk (decide (0 ≤ (wi64 ((x19.2.2.1.length : Int) - x13.2.2.1))))
                ((chk (decide ((Int.toNat (wi64 ((x19.2.2.1.length : Int) - x13.2.2.1))) ≤ x20.2.2.1.length))
                ((Option.bind (F74 N [y14.2.2.1, (x20.2.2.1.drop (Int.toNat (wi64 ((x19.2.2.1.length : Int) - x13.2.2.1))))]) fun y21 =>
                (Option.bind (v12[(Int.toNat x13.2.1)]?) fun x22 =>
                (Option.bind (F31 N [(v9, v10, v11, (v12.set (Int.toNat x13.2.1) (x22.1, x22.2.1, y21, x22.2.2.2)))]) fun y23 =>
                (bif (!y23)
                then some (Sum.inl ((2 : Int), (0 : Int), (0 : Int), (0 : Int)))
                else L0_11 N k (v3, v4, (wi64 (v5 + (1 : Int))), v6, v7, v8, v9, v10, v11, (v12.set (Int.toNat x13.2.1) (x22.1, x22.2.1, y21, x22.2.2.2))))))))))))))
            else (bif (x13.1 == (4 : Int))
              then (Option.bind (v12[(Int.toNat x13.2.1)]?) fun x24 =>
                (Option.bind (F31 N [(v9, v10, v11, (v12.set (Int.toNat x13.2.1) (x24.1, x24.2.1, x24.2.2.1, y14.2.2.2.1, x24.2.2.2.2)))]) fun y25 =>
                (bif (!y25)
                then some (Sum.inl ((2 : Int), (0 : Int), (0 : Int), (0 : Int)))
                else L0_11 N k (v3, v4, (wi64 (v5 + (1 : Int))), v6, v7, v8, v9, v10, v11, (v12.set (Int.toNat x13.2.1) (x24.1, x24.2.1, x24.2.2.1, y14.2.2.2.1, x24.2.2.2.2))))))
              else (bif (x13.1 == (5 : Int))
                then (Option.bind (v12[(Int.toNat x13.2.1)]?) fun x26 =>
                  (Option.bind (F31 N [(v9, v10, v11, (v12.set (Int.toNat x13.2.1) (x26.1, x26.2.1, x26.2.2.1, x26.2.2.2.1, y14.2.2.2.2)))]) fun y27 =>
                  (bif (!y27)
                  then some (Sum.inl ((2 : Int), (0 : Int), (0 : Int), (0 : Int)))
                  else L0_11 N k (v3, v4, (wi64 (v5 + (1 : Int))), v6, v7, v8, v9, v10, v11, (v12.set (Int.toNat x13.2.1) (x26.1, x26.2.1, x26.2.2.1, x26.2.2.2.1, y14.2.2.2.2))))))
                else (bif (x13.1 == (6 : Int))
                  then (chk (decide (0 ≤ x13.2.1))
                    ((chk (decide ((Int.toNat x13.2.1) ≤ v12.length))
                    ((Option.bind (F31 N [(v9, v10, v11, (v12.take (Int.toNat x13.2.1)))]) fun y28 =>
                    (bif (!y28)
                    then some (Sum.inl ((2 : Int), (0 : Int), (0 : Int), (0 : Int)))
                    else L0_11 N k (v3, v4, (wi64 (v5 + (1 : Int))), v6, v7, v8, v9, v10, v11, (v12.take (Int.toNat x13.2.1)))))))))
                  else (Option.bind (F31 N [(v9, v10, v11, v12)]) fun y29 =>
                    (bif (!y29)
                    then some (Sum.inl ((2 : Int), (0 : Int), (0 : Int), (0 : Int)))
                    else L0_11 N k (v3, v4, (wi64 (v5 + (1 : Int))), v6, v7, v8, v9, v10, v11, v12)))))))))))))))
  else some (Sum.inr (v6, v7, v8, v9, v10, v11, v12))) := by kernel_rfl
def E1 (N : Nat) : SEnv := (E0 N).addLoop N 0 11 T0_11 O0_11
theorem ok1 (N : Nat) : EnvOK tab (E1 N) := (ok0 N).addLoop N 0 11 T0_11 O0_11
end f18
def F18 (N : Nat) (x : (Int) × (Int) × (Int) × (List (RoutineState)) × List (Edit)) : Option ((Int) × (Int) × (Int) × (List (RoutineState)) × Int) := fnRun (f18.E1 N) fuelW 18 f18.args f18.ta f18.res f18.tr 0 x
open f18 in
theorem F18_eq (N : Nat) (p0 : Int) (p1 : Int) (p2 : Int) (p3 : List (RoutineState)) (p4 : List (Edit)) : F18 N (p0, p1, p2, p3, p4) =
  (Option.bind (F31 N [(p0, p1, p2, p3)]) fun y0 =>
  (bif (!y0)
  then some ((0 : Int), (0 : Int), (0 : Int), [], (4 : Int))
  else (Option.bind (F41 N p4) fun y1 =>
    (bif (y1 != (0 : Int))
    then some ((0 : Int), (0 : Int), (0 : Int), [], y1)
    else (Option.bind (F42 N (p0, p1, p2, p3)) fun y2 =>
      (Option.bind (L0_11 N N (p4, (p4.length : Int), (0 : Int), (0 : Int), (0 : Int), (0 : Int), y2.1, y2.2.1, y2.2.2.1, y2.2.2.2)) fun y30 =>
      (match y30 with
      | .inl a31 => some (a31.2.1, a31.2.2.1, a31.2.2.2, [], a31.1)
      | .inr b32 => some (b32.2.2.2.1, b32.2.2.2.2.1, b32.2.2.2.2.2.1, b32.2.2.2.2.2.2, (0 : Int))))))))) := by kernel_rfl
def c18 (N : Nat) : Sym.Callee := ⟨f18.args, f18.ta, f18.res, f18.tr, 0, F18 N⟩
theorem ok18 (N : Nat) : CalOK tab 18 (c18 N) := fn_ok (f18.ok1 N) fuelW 18 f18.args f18.ta f18.res f18.tr 0

/- wreckage/wreckageref43.fair -/
namespace f55
def cuts : Nat → Nat → Option Outs := fun _ _ => none
def ccut : Nat → Nat → Option Outs := fun _ _ => none
def ety : Nat → Nat → Option Ty := fun _ _ => none
def args : List PSh := [.agg [.int .u8, .int .i64, .sl TFrameState .bor, .sl TDeferState .bor, .sl TPanicState .bor]]
def ta : List Ty := [(.int .u8), (.int .i64), (.sl TFrameState), (.sl TDeferState), (.sl TPanicState)]
def res : List (Bool × List CSh) := [(false, [.bool])]
def tr : List Ty := [.bool]
def E0 (N : Nat) : SEnv := SEnv.base tab cuts ccut ety
theorem ok0 (N : Nat) : EnvOK tab (E0 N) := base_ok tab cuts ccut ety
end f55
def F55 (N : Nat) (x : (Int) × (Int) × (List (FrameState)) × (List (DeferState)) × List (PanicState)) : Option (Bool) := fnRun (f55.E0 N) fuelW 55 f55.args f55.ta f55.res f55.tr 0 x
open f55 in
theorem F55_eq (N : Nat) (p0 : Int) (p1 : Int) (p2 : List (FrameState)) (p3 : List (DeferState)) (p4 : List (PanicState)) : F55 N (p0, p1, p2, p3, p4) =
  (bif (decide ((p2.length : Int) ≤ (170 : Int)))
  then (bif (decide ((p3.length : Int) ≤ (410 : Int)))
    then some (decide ((p4.length : Int) ≤ (410 : Int)))
    else some false)
  else some false) := by kernel_rfl
def c55 (N : Nat) : Sym.Callee := ⟨f55.args, f55.ta, f55.res, f55.tr, 0, F55 N⟩
theorem ok55 (N : Nat) : CalOK tab 55 (c55 N) := fn_ok (f55.ok0 N) fuelW 55 f55.args f55.ta f55.res f55.tr 0

/- wreckage/wreckageref43.Fair -/
namespace f34
def cuts : Nat → Nat → Option Outs := fun _ _ => none
def ccut : Nat → Nat → Option Outs := fun _ _ => none
def ety : Nat → Nat → Option Ty := fun _ _ => none
def args : List PSh := [.agg [.int .u8, .int .i64, .int .i64, .sl TRoutineState .bor]]
def ta : List Ty := [(.int .u8), (.int .i64), (.int .i64), (.sl TRoutineState)]
def res : List (Bool × List CSh) := [(false, [.bool])]
def tr : List Ty := [.bool]
def E0 (N : Nat) : SEnv := (SEnv.base tab cuts ccut ety).addCal 55 (c55 N)
theorem ok0 (N : Nat) : EnvOK tab (E0 N) := (base_ok tab cuts ccut ety).addCal (ok55 N)
def T0_3 : Tmpl := ⟨[(1, .c (.ptr 0 1 0 0 0)), (3, .c (.int .i64))], [], [(0, 1, .box 0 [.int .u8, .int .i64, .int .i64, .sl TRoutineState .bor])], 1, [], 1, [(.int .i64), (.int .u8), (.int .i64), (.int .i64), (.sl TRoutineState)]⟩
def O0_3 : Outs := [(.ret, ⟨[(2, .c (.bool))], [], [], 1, [], 0, [.bool]⟩), (.exit 0, ⟨[(1, .c (.ptr 0 1 0 0 0))], [], [(0, 1, .box 0 [.int .u8, .int .i64, .int .i64, .sl TRoutineState .bor])], 1, [], 1, [(.int .u8), (.int .i64), (.int .i64), (.sl TRoutineState)]⟩)]
def L0_3 (N : Nat) (k : Nat) (x : (Int) × (Int) × (Int) × (Int) × List (RoutineState)) : Option ((Bool) ⊕ ((Int) × (Int) × (Int) × List (RoutineState))) := loopF (loopStep (E0 N) fuelW 0 3 (bodyAt t34 3) T0_3 O0_3) k x
theorem L0_3_succ (N : Nat) (k : Nat) (v0 : Int) (v1 : Int) (v2 : Int) (v3 : Int) (v4 : List (RoutineState)) : L0_3 N (k + 1) (v0, v1, v2, v3, v4) =
  (bif (decide (v0 < (v4.length : Int)))
  then (Option.bind (idx v4 v0) fun x5 =>
    (Option.bind (F55 N (x5.1, x5.2.1, x5.2.2.1, x5.2.2.2.1, x5.2.2.2.2)) fun y6 =>
    (bif (!y6)
    then some (Sum.inl false)
    else L0_3 N k ((wi64 (v0 + (1 : Int))), v1, v2, v3, v4))))
  else some (Sum.inr (v1, v2, v3, v4))) := by kernel_rfl
def E1 (N : Nat) : SEnv := (E0 N).addLoop N 0 3 T0_3 O0_3
theorem ok1 (N : Nat) : EnvOK tab (E1 N) := (ok0 N).addLoop N 0 3 T0_3 O0_3
end f34
def F34 (N : Nat) (x : (Int) × (Int) × (Int) × List (RoutineState)) : Option (Bool) := fnRun (f34.E1 N) fuelW 34 f34.args f34.ta f34.res f34.tr 0 x
open f34 in
theorem F34_eq (N : Nat) (p0 : Int) (p1 : Int) (p2 : Int) (p3 : List (RoutineState)) : F34 N (p0, p1, p2, p3) =
  (Option.bind (L0_3 N N ((0 : Int), p0, p1, p2, p3)) fun y7 =>
  (match y7 with
  | .inl a8 => some a8
  | .inr b9 => some (decide ((b9.2.2.2.length : Int) ≤ (16 : Int))))) := by kernel_rfl
def c34 (N : Nat) : Sym.Callee := ⟨f34.args, f34.ta, f34.res, f34.tr, 0, F34 N⟩
theorem ok34 (N : Nat) : CalOK tab 34 (c34 N) := fn_ok (f34.ok1 N) fuelW 34 f34.args f34.ta f34.res f34.tr 0

/- wreckage/wreckageref38.Same -/
namespace f49
def cuts : Nat → Nat → Option Outs := fun _ _ => none
def ccut : Nat → Nat → Option Outs := fun _ _ => none
def ety : Nat → Nat → Option Ty := fun _ _ => none
def args : List PSh := [.agg [.int .u8, .int .i64, .str, .sl .val .bor, .bool], .agg [.int .u8, .int .i64, .str, .sl .val .bor, .bool]]
def ta : List Ty := [(.int .u8), (.int .i64), .str, (.sl .val), .bool, (.int .u8), (.int .i64), .str, (.sl .val), .bool]
def res : List (Bool × List CSh) := [(false, [.bool])]
def tr : List Ty := [.bool]
def E0 (N : Nat) (R : ((Int) × (Int) × (List UInt8) × (List (Val)) × (Bool) × (Int) × (Int) × (List UInt8) × (List (Val)) × Bool) → Option (Bool)) : SEnv := (SEnv.base tab cuts ccut ety).addCal 49 ⟨args, ta, res, tr, 0, R⟩
theorem ok0 (N : Nat) (R : ((Int) × (Int) × (List UInt8) × (List (Val)) × (Bool) × (Int) × (Int) × (List UInt8) × (List (Val)) × Bool) → Option (Bool)) (hR : CalOK tab 49 ⟨args, ta, res, tr, 0, R⟩) : EnvOK tab (E0 N R) := (base_ok tab cuts ccut ety).addCal hR
def T0_6 : Tmpl := ⟨[(2, .c (.ptr 0 2 0 0 0)), (3, .c (.ptr 0 3 1 0 0)), (5, .c (.int .i64))], [], [(0, 2, .box 0 [.int .u8, .int .i64, .str, .sl .val .bor, .bool]), (0, 3, .box 1 [.int .u8, .int .i64, .str, .sl .val .bor, .bool])], 1, [], 2, [(.int .i64), (.int .u8), (.int .i64), .str, (.sl .val), .bool, (.int .u8), (.int .i64), .str, (.sl .val), .bool]⟩
def O0_6 : Outs := [(.ret, ⟨[(4, .c (.bool))], [], [], 1, [], 0, [.bool]⟩), (.exit 0, ⟨[], [], [], 1, [], 0, []⟩)]
def L0_6 (N : Nat) (R : ((Int) × (Int) × (List UInt8) × (List (Val)) × (Bool) × (Int) × (Int) × (List UInt8) × (List (Val)) × Bool) → Option (Bool)) (k : Nat) (x : (Int) × (Int) × (Int) × (List UInt8) × (List (Val)) × (Bool) × (Int) × (Int) × (List UInt8) × (List (Val)) × Bool) : Option ((Bool) ⊕ (Unit)) := loopF (loopStep (E0 N R) fuelW 0 6 (bodyAt t49 6) T0_6 O0_6) k x
theorem L0_6_succ (N : Nat) (R : ((Int) × (Int) × (List UInt8) × (List (Val)) × (Bool) × (Int) × (Int) × (List UInt8) × (List (Val)) × Bool) → Option (Bool)) (k : Nat) (v0 : Int) (v1 : Int) (v2 : Int) (v3 : List UInt8) (v4 : List (Val)) (v5 : Bool) (v6 : Int) (v7 : Int) (v8 : List UInt8) (v9 : List (Val)) (v10 : Bool) : L0_6 N R (k + 1) (v0, v1, v2, v3, v4, v5, v6, v7, v8, v9, v10) =
  (bif (decide (v0 < (v4.length : Int)))
  then (Option.bind (idx v4 v0) fun x11 =>
    (Option.bind (idx v9 v0) fun x12 =>
    (Option.bind (R (x11.kind, x11.int, x11.text, x11.list, x11.cut, x12.kind, x12.int, x12.text, x12.list, x12.cut)) fun y13 =>
    (bif (!y13)
    then some (Sum.inl false)
    else L0_6 N R k ((wi64 (v0 + (1 : Int))), v1, v2, v3, v4, v5, v6, v7, v8, v9, v10)))))
  else some (Sum.inr ())) := by kernel_rfl
def E1 (N : Nat) (R : ((Int) × (Int) × (List UInt8) × (List (Val)) × (Bool) × (Int) × (Int) × (List UInt8) × (List (Val)) × Bool) → Option (Bool)) : SEnv := (E0 N R).addLoop N 0 6 T0_6 O0_6
theorem ok1 (N : Nat) (R : ((Int) × (Int) × (List UInt8) × (List (Val)) × (Bool) × (Int) × (Int) × (List UInt8) × (List (Val)) × Bool) → Option (Bool)) (hR : CalOK tab 49 ⟨args, ta, res, tr, 0, R⟩) : EnvOK tab (E1 N R) := (ok0 N R hR).addLoop N 0 6 T0_6 O0_6
end f49
def F49 (N : Nat) (x : (Int) × (Int) × (List UInt8) × (List (Val)) × (Bool) × (Int) × (Int) × (List UInt8) × (List (Val)) × Bool) : Option (Bool) := fixF (fun N R x => fnRun (f49.E1 N R) fuelW 49 f49.args f49.ta f49.res f49.tr 0 x) N x
open f49 in
theorem F49_eq (N : Nat) (p0 : Int) (p1 : Int) (p2 : List UInt8) (p3 : List (Val)) (p4 : Bool) (p5 : Int) (p6 : Int) (p7 : List UInt8) (p8 : List (Val)) (p9 : Bool) : F49 (N + 1) (p0, p1, p2, p3, p4, p5, p6, p7, p8, p9) =
  (bif (p0 != p5)
  then some false
  else (bif (p1 != p6)
    then some false
    else (bif (!(p2 == p7))
      then some false
      else (bif (!(p4 == p9))
        then some false
        else (bif ((p3.length : Int) != (p8.length : Int))
          then some false
          else (Option.bind (L0_6 N (F49 N) N ((0 : Int), p0, p1, p2, p3, p4, p5, p6, p7, p8, p9)) fun y14 =>
            (match y14 with
            | .inl a15 => some a15
            | .inr b16 => some true))))))) := by kernel_rfl
theorem F49_zero (x : (Int) × (Int) × (List UInt8) × (List (Val)) × (Bool) × (Int) × (Int) × (List UInt8) × (List (Val)) × Bool) : F49 0 x = none := rfl
def c49 (N : Nat) : Sym.Callee := ⟨f49.args, f49.ta, f49.res, f49.tr, 0, F49 N⟩
theorem ok49 : ∀ N : Nat, CalOK tab 49 (c49 N)
  | 0 => fun _ _ h => by cases h
  | N + 1 => fn_ok (f49.ok1 N (F49 N) (ok49 N)) fuelW 49 f49.args f49.ta f49.res f49.tr 0

/- wreckage/wreckageref39.Same -/
namespace f77
def cuts : Nat → Nat → Option Outs := fun _ _ => none
def ccut : Nat → Nat → Option Outs := fun _ _ => none
def ety : Nat → Nat → Option Ty := fun _ _ => none
def args : List PSh := [.agg [.int .u64, .int .u8, .int .i64, .str, .sl .val .bor, .bool, .int .u64], .agg [.int .u64, .int .u8, .int .i64, .str, .sl .val .bor, .bool, .int .u64]]
def ta : List Ty := [(.int .u64), (.int .u8), (.int .i64), .str, (.sl .val), .bool, (.int .u64), (.int .u64), (.int .u8), (.int .i64), .str, (.sl .val), .bool, (.int .u64)]
def res : List (Bool × List CSh) := [(false, [.bool])]
def tr : List Ty := [.bool]
def E0 (N : Nat) : SEnv := (SEnv.base tab cuts ccut ety).addCal 49 (c49 N)
theorem ok0 (N : Nat) : EnvOK tab (E0 N) := (base_ok tab cuts ccut ety).addCal (ok49 N)
end f77
def F77 (N : Nat) (x : (Int) × (Int) × (Int) × (List UInt8) × (List (Val)) × (Bool) × (Int) × (Int) × (Int) × (Int) × (List UInt8) × (List (Val)) × (Bool) × Int) : Option (Bool) := fnRun (f77.E0 N) fuelW 77 f77.args f77.ta f77.res f77.tr 0 x
open f77 in
theorem F77_eq (N : Nat) (p0 : Int) (p1 : Int) (p2 : Int) (p3 : List UInt8) (p4 : List (Val)) (p5 : Bool) (p6 : Int) (p7 : Int) (p8 : Int) (p9 : Int) (p10 : List UInt8) (p11 : List (Val)) (p12 : Bool) (p13 : Int) : F77 N (p0, p1, p2, p3, p4, p5, p6, p7, p8, p9, p10, p11, p12, p13) =
  (bif (p0 == p7)
  then (bif (p6 == p13)
    then (Option.bind (F49 N (p1, p2, p3, p4, p5, p8, p9, p10, p11, p12)) fun y0 =>
      some y0)
    else some false)
  else some false) := by kernel_rfl
def c77 (N : Nat) : Sym.Callee := ⟨f77.args, f77.ta, f77.res, f77.tr, 0, F77 N⟩
theorem ok77 (N : Nat) : CalOK tab 77 (c77 N) := fn_ok (f77.ok0 N) fuelW 77 f77.args f77.ta f77.res f77.tr 0

/- wreckage/wreckageref39.SameAll -/
namespace f48
def cuts : Nat → Nat → Option Outs := fun _ _ => none
def ccut : Nat → Nat → Option Outs := fun _ _ => none
def ety : Nat → Nat → Option Ty := fun _ _ => none
def args : List PSh := [.c (.sl TPanicState .bor), .c (.sl TPanicState .bor)]
def ta : List Ty := [(.sl TPanicState), (.sl TPanicState)]
def res : List (Bool × List CSh) := [(false, [.bool])]
def tr : List Ty := [.bool]
def E0 (N : Nat) : SEnv := (SEnv.base tab cuts ccut ety).addCal 77 (c77 N)
theorem ok0 (N : Nat) : EnvOK tab (E0 N) := (base_ok tab cuts ccut ety).addCal (ok77 N)
def T0_6 : Tmpl := ⟨[(0, .c (.sl TPanicState .bor)), (1, .c (.sl TPanicState .bor)), (5, .c (.int .i64))], [], [], 1, [], 0, [(.sl TPanicState), (.sl TPanicState), (.int .i64)]⟩
def O0_6 : Outs := [(.ret, ⟨[(4, .c (.bool))], [], [], 1, [], 0, [.bool]⟩), (.exit 0, ⟨[], [], [], 1, [], 0, []⟩)]
def L0_6 (N : Nat) (k : Nat) (x : (List (PanicState)) × (List (PanicState)) × Int) : Option ((Bool) ⊕ (Unit)) := loopF (loopStep (E0 N) fuelW 0 6 (bodyAt t48 6) T0_6 O0_6) k x
theorem L0_6_succ (N : Nat) (k : Nat) (v0 : List (PanicState)) (v1 : List (PanicState)) (v2 : Int) : L0_6 N (k + 1) (v0, v1, v2) =
  (bif (decide (v2 < (v0.length : Int)))
  then (Option.bind (idx v0 v2) fun x3 =>
    (Option.bind (idx v1 v2) fun x4 =>
    (Option.bind (F77 N (x3.1, x3.2.1.kind, x3.2.1.int, x3.2.1.text, x3.2.1.list, x3.2.1.cut, x3.2.2, x4.1, x4.2.1.kind, x4.2.1.int, x4.2.1.text, x4.2.1.list, x4.2.1.cut, x4.2.2)) fun y5 =>
    (bif (!y5)
    then some (Sum.inl false)
    else L0_6 N k (v0, v1, (wi64 (v2 + (1 : Int))))))))
  else some (Sum.inr ())) := by kernel_rfl
def E1 (N : Nat) : SEnv := (E0 N).addLoop N 0 6 T0_6 O0_6
theorem ok1 (N : Nat) : EnvOK tab (E1 N) := (ok0 N).addLoop N 0 6 T0_6 O0_6
end f48
def F48 (N : Nat) (x : (List (PanicState)) × List (PanicState)) : Option (Bool) := fnRun (f48.E1 N) fuelW 48 f48.args f48.ta f48.res f48.tr 0 x
open f48 in
theorem F48_eq (N : Nat) (p0 : List (PanicState)) (p1 : List (PanicState)) : F48 N (p0, p1) =
  (bif ((p0.length : Int) != (p1.length : Int))
  then some false
  else (Option.bind (L0_6 N N (p0, p1, (0 : Int))) fun y6 =>
    (match y6 with
    | .inl a7 => some a7
    | .inr b8 => some true))) := by kernel_rfl
def c48 (N : Nat) : Sym.Callee := ⟨f48.args, f48.ta, f48.res, f48.tr, 0, F48 N⟩
theorem ok48 (N : Nat) : CalOK tab 48 (c48 N) := fn_ok (f48.ok1 N) fuelW 48 f48.args f48.ta f48.res f48.tr 0

/- wreckage/wreckageref38.SameLocals -/
namespace f44
def cuts : Nat → Nat → Option Outs := fun _ _ => none
def ccut : Nat → Nat → Option Outs := fun _ _ => none
def ety : Nat → Nat → Option Ty := fun _ _ => none
def args : List PSh := [.c (.sl TLocal .bor), .c (.sl TLocal .bor)]
def ta : List Ty := [(.sl TLocal), (.sl TLocal)]
def res : List (Bool × List CSh) := [(false, [.bool])]
def tr : List Ty := [.bool]
def E0 (N : Nat) : SEnv := (SEnv.base tab cuts ccut ety).addCal 49 (c49 N)
theorem ok0 (N : Nat) : EnvOK tab (E0 N) := (base_ok tab cuts ccut ety).addCal (ok49 N)
def T0_6 : Tmpl := ⟨[(0, .c (.sl TLocal .bor)), (1, .c (.sl TLocal .bor)), (5, .c (.int .i64))], [], [], 1, [], 0, [(.sl TLocal), (.sl TLocal), (.int .i64)]⟩
def O0_6 : Outs := [(.ret, ⟨[(4, .c (.bool))], [], [], 1, [], 0, [.bool]⟩), (.exit 0, ⟨[], [], [], 1, [], 0, []⟩)]
def L0_6 (N : Nat) (k : Nat) (x : (List (Local)) × (List (Local)) × Int) : Option ((Bool) ⊕ (Unit)) := loopF (loopStep (E0 N) fuelW 0 6 (bodyAt t44 6) T0_6 O0_6) k x
theorem L0_6_succ (N : Nat) (k : Nat) (v0 : List (Local)) (v1 : List (Local)) (v2 : Int) : L0_6 N (k + 1) (v0, v1, v2) =
  (bif (decide (v2 < (v0.length : Int)))
  then (Option.bind (idx v0 v2) fun x3 =>
    (Option.bind (idx v1 v2) fun x4 =>
    (bif (x3.1 != x4.1)
    then some (Sum.inl false)
    else (Option.bind (idx v0 v2) fun x5 =>
      (Option.bind (idx v1 v2) fun x6 =>
      (Option.bind (F49 N (x5.2.kind, x5.2.int, x5.2.text, x5.2.list, x5.2.cut, x6.2.kind, x6.2.int, x6.2.text, x6.2.list, x6.2.cut)) fun y7 =>
      (bif (!y7)
      then some (Sum.inl false)
      else L0_6 N k (v0, v1, (wi64 (v2 + (1 : Int)))))))))))
  else some (Sum.inr ())) := by kernel_rfl
def E1 (N : Nat) : SEnv := (E0 N).addLoop N 0 6 T0_6 O0_6
theorem ok1 (N : Nat) : EnvOK tab (E1 N) := (ok0 N).addLoop N 0 6 T0_6 O0_6
end f44
def F44 (N : Nat) (x : (List (Local)) × List (Local)) : Option (Bool) := fnRun (f44.E1 N) fuelW 44 f44.args f44.ta f44.res f44.tr 0 x
open f44 in
theorem F44_eq (N : Nat) (p0 : List (Local)) (p1 : List (Local)) : F44 N (p0, p1) =
  (bif ((p0.length : Int) != (p1.length : Int))
  then some false
  else (Option.bind (L0_6 N N (p0, p1, (0 : Int))) fun y8 =>
    (match y8 with
    | .inl a9 => some a9
    | .inr b10 => some true))) := by kernel_rfl
def c44 (N : Nat) : Sym.Callee := ⟨f44.args, f44.ta, f44.res, f44.tr, 0, F44 N⟩
theorem ok44 (N : Nat) : CalOK tab 44 (c44 N) := fn_ok (f44.ok1 N) fuelW 44 f44.args f44.ta f44.res f44.tr 0

/- wreckage/wreckageref38.SameFrame -/
namespace f20
def cuts : Nat → Nat → Option Outs := fun _ _ => none
def ccut : Nat → Nat → Option Outs := fun _ _ => none
def ety : Nat → Nat → Option Ty := fun _ _ => none
def args : List PSh := [.agg [.int .i64, .int .i64, .int .u64, .sl TLocal .bor], .agg [.int .i64, .int .i64, .int .u64, .sl TLocal .bor]]
def ta : List Ty := [(.int .i64), (.int .i64), (.int .u64), (.sl TLocal), (.int .i64), (.int .i64), (.int .u64), (.sl TLocal)]
def res : List (Bool × List CSh) := [(false, [.bool])]
def tr : List Ty := [.bool]
def E0 (N : Nat) : SEnv := (SEnv.base tab cuts ccut ety).addCal 44 (c44 N)
theorem ok0 (N : Nat) : EnvOK tab (E0 N) := (base_ok tab cuts ccut ety).addCal (ok44 N)
end f20
def F20 (N : Nat) (x : (Int) × (Int) × (Int) × (List (Local)) × (Int) × (Int) × (Int) × List (Local)) : Option (Bool) := fnRun (f20.E0 N) fuelW 20 f20.args f20.ta f20.res f20.tr 0 x
open f20 in
theorem F20_eq (N : Nat) (p0 : Int) (p1 : Int) (p2 : Int) (p3 : List (Local)) (p4 : Int) (p5 : Int) (p6 : Int) (p7 : List (Local)) : F20 N (p0, p1, p2, p3, p4, p5, p6, p7) =
  (bif (p0 == p4)
  then (bif (p1 == p5)
    then (bif (p2 == p6)
      then (Option.bind (F44 N (p3, p7)) fun y0 =>
        some y0)
      else some false)
    else some false)
  else some false) := by kernel_rfl
def c20 (N : Nat) : Sym.Callee := ⟨f20.args, f20.ta, f20.res, f20.tr, 0, F20 N⟩
theorem ok20 (N : Nat) : CalOK tab 20 (c20 N) := fn_ok (f20.ok0 N) fuelW 20 f20.args f20.ta f20.res f20.tr 0

/- wreckage/wreckageref40.SameRoutine -/
namespace f23
def cuts : Nat → Nat → Option Outs := fun _ _ => none
def ccut : Nat → Nat → Option Outs := fun _ _ => none
def ety : Nat → Nat → Option Ty := fun _ _ => none
def args : List PSh := [.agg [.int .u8, .int .i64, .sl TFrameState .bor, .sl TDeferState .bor, .sl TPanicState .bor], .agg [.int .u8, .int .i64, .sl TFrameState .bor, .sl TDeferState .bor, .sl TPanicState .bor]]
def ta : List Ty := [(.int .u8), (.int .i64), (.sl TFrameState), (.sl TDeferState), (.sl TPanicState), (.int .u8), (.int .i64), (.sl TFrameState), (.sl TDeferState), (.sl TPanicState)]
def res : List (Bool × List CSh) := [(false, [.bool])]
def tr : List Ty := [.bool]
def E0 (N : Nat) : SEnv := (((SEnv.base tab cuts ccut ety).addCal 48 (c48 N)).addCal 20 (c20 N)).addCal 49 (c49 N)
theorem ok0 (N : Nat) : EnvOK tab (E0 N) := (((base_ok tab cuts ccut ety).addCal (ok48 N)).addCal (ok20 N)).addCal (ok49 N)
def T0_6 : Tmpl := ⟨[(2, .c (.ptr 0 2 0 0 0)), (3, .c (.ptr 0 3 1 0 0)), (5, .c (.int .i64))], [], [(0, 2, .box 0 [.int .u8, .int .i64, .sl TFrameState .bor, .sl TDeferState .bor, .sl TPanicState .bor]), (0, 3, .box 1 [.int .u8, .int .i64, .sl TFrameState .bor, .sl TDeferState .bor, .sl TPanicState .bor])], 1, [], 2, [(.int .i64), (.int .u8), (.int .i64), (.sl TFrameState), (.sl TDeferState), (.sl TPanicState), (.int .u8), (.int .i64), (.sl TFrameState), (.sl TDeferState), (.sl TPanicState)]⟩
def O0_6 : Outs := [(.ret, ⟨[(4, .c (.bool))], [], [], 1, [], 0, [.bool]⟩), (.exit 0, ⟨[(2, .c (.ptr 0 2 0 0 0)), (3, .c (.ptr 0 3 1 0 0))], [], [(0, 2, .box 0 [.int .u8, .int .i64, .sl TFrameState .bor, .sl TDeferState .bor, .sl TPanicState .bor]), (0, 3, .box 1 [.int .u8, .int .i64, .sl TFrameState .bor, .sl TDeferState .bor, .sl TPanicState .bor])], 1, [], 2, [(.int .u8), (.int .i64), (.sl TFrameState), (.sl TDeferState), (.sl TPanicState), (.int .u8), (.int .i64), (.sl TFrameState), (.sl TDeferState), (.sl TPanicState)]⟩)]
def L0_6 (N : Nat) (k : Nat) (x : (Int) × (Int) × (Int) × (List (FrameState)) × (List (DeferState)) × (List (PanicState)) × (Int) × (Int) × (List (FrameState)) × (List (DeferState)) × List (PanicState)) : Option ((Bool) ⊕ ((Int) × (Int) × (List (FrameState)) × (List (DeferState)) × (List (PanicState)) × (Int) × (Int) × (List (FrameState)) × (List (DeferState)) × List (PanicState))) := loopF (loopStep (E0 N) fuelW 0 6 (bodyAt t23 6) T0_6 O0_6) k x
theorem L0_6_succ (N : Nat) (k : Nat) (v1 : Int) (v2 : Int) (v3 : Int) (v4 : List (FrameState)) (v5 : List (DeferState)) (v6 : List (PanicState)) (v7 : Int) (v8 : Int) (v9 : List (FrameState)) (v10 : List (DeferState)) (v11 : List (PanicState)) : L0_6 N (k + 1) (v1, v2, v3, v4, v5, v6, v7, v8, v9, v10, v11) =
  (bif (decide (v1 < (v4.length : Int)))
  then (Option.bind (idx v4 v1) fun x12 =>
    (Option.bind (idx v9 v1) fun x13 =>
    (Option.bind (F20 N (x12.1, x12.2.1, x12.2.2.1, x12.2.2.2, x13.1, x13.2.1, x13.2.2.1, x13.2.2.2)) fun y14 =>
    (bif (!y14)
    then some (Sum.inl false)
    else L0_6 N k ((wi64 (v1 + (1 : Int))), v2, v3, v4, v5, v6, v7, v8, v9, v10, v11)))))
  else some (Sum.inr (v2, v3, v4, v5, v6, v7, v8, v9, v10, v11))) := by kernel_rfl
def E1 (N : Nat) : SEnv := (E0 N).addLoop N 0 6 T0_6 O0_6
theorem ok1 (N : Nat) : EnvOK tab (E1 N) := (ok0 N).addLoop N 0 6 T0_6 O0_6
def T0_16 : Tmpl := ⟨[(2, .c (.ptr 0 2 0 0 0)), (3, .c (.ptr 0 3 1 0 0)), (6, .c (.int .i64))], [], [(0, 2, .box 0 [.int .u8, .int .i64, .sl TFrameState .bor, .sl TDeferState .bor, .sl TPanicState .bor]), (0, 3, .box 1 [.int .u8, .int .i64, .sl TFrameState .bor, .sl TDeferState .bor, .sl TPanicState .bor])], 1, [], 2, [(.int .i64), (.int .u8), (.int .i64), (.sl TFrameState), (.sl TDeferState), (.sl TPanicState), (.int .u8), (.int .i64), (.sl TFrameState), (.sl TDeferState), (.sl TPanicState)]⟩
def O0_16 : Outs := [(.ret, ⟨[(4, .c (.bool))], [], [], 1, [], 0, [.bool]⟩), (.exit 2, ⟨[], [], [], 1, [], 0, []⟩)]
def L0_16 (N : Nat) (k : Nat) (x : (Int) × (Int) × (Int) × (List (FrameState)) × (List (DeferState)) × (List (PanicState)) × (Int) × (Int) × (List (FrameState)) × (List (DeferState)) × List (PanicState)) : Option ((Bool) ⊕ (Unit)) := loopF (loopStep (E1 N) fuelW 0 16 (bodyAt t23 16) T0_16 O0_16) k x
theorem L0_16_succ (N : Nat) (k : Nat) (v18 : Int) (v19 : Int) (v20 : Int) (v21 : List (FrameState)) (v22 : List (DeferState)) (v23 : List (PanicState)) (v24 : Int) (v25 : Int) (v26 : List (FrameState)) (v27 : List (DeferState)) (v28 : List (PanicState)) : L0_16 N (k + 1) (v18, v19, v20, v21, v22, v23, v24, v25, v26, v27, v28) =
  (bif (decide (v18 < (v22.length : Int)))
  then (Option.bind (idx v22 v18) fun x29 =>
    (Option.bind (idx v27 v18) fun x30 =>
    (bif (x29.1 != x30.1)
    then some (Sum.inl false)
    else (bif (x29.2.1 != x30.2.1)
      then some (Sum.inl false)
      else (bif (!(x29.2.2.1 == x30.2.2.1))
        then some (Sum.inl false)
        else (Option.bind (F49 N (x29.2.2.2.kind, x29.2.2.2.int, x29.2.2.2.text, x29.2.2.2.list, x29.2.2.2.cut, x30.2.2.2.kind, x30.2.2.2.int, x30.2.2.2.text, x30.2.2.2.list, x30.2.2.2.cut)) fun y31 =>
          (bif (!y31)
          then some (Sum.inl false)
          else L0_16 N k ((wi64 (v18 + (1 : Int))), v19, v20, v21, v22, v23, v24, v25, v26, v27, v28))))))))
  else some (Sum.inr ())) := by kernel_rfl
def E2 (N : Nat) : SEnv := (E1 N).addLoop N 0 16 T0_16 O0_16
theorem ok2 (N : Nat) : EnvOK tab (E2 N) := (ok1 N).addLoop N 0 16 T0_16 O0_16
end f23
def F23 (N : Nat) (x : (Int) × (Int) × (List (FrameState)) × (List (DeferState)) × (List (PanicState)) × (Int) × (Int) × (List (FrameState)) × (List (DeferState)) × List (PanicState)) : Option (Bool) := fnRun (f23.E2 N) fuelW 23 f23.args f23.ta f23.res f23.tr 0 x
open f23 in
theorem F23_eq (N : Nat) (p0 : Int) (p1 : Int) (p2 : List (FrameState)) (p3 : List (DeferState)) (p4 : List (PanicState)) (p5 : Int) (p6 : Int) (p7 : List (FrameState)) (p8 : List (DeferState)) (p9 : List (PanicState)) : F23 N (p0, p1, p2, p3, p4, p5, p6, p7, p8, p9) =
  (bif (p0 != p5)
  then some false
  else (bif (p1 != p6)
    then some false
    else (bif ((p2.length : Int) != (p7.length : Int))
      then some false
      else (bif ((p3.length : Int) != (p8.length : Int))
        then some false
        else (Option.bind (F48 N (p4, p9)) fun y0 =>
          (bif (!y0)
          then some false
          else (Option.bind (L0_6 N N ((0 : Int), p0, p1, p2, p3, p4, p5, p6, p7, p8, p9)) fun y15 =>
            (match y15 with
            | .inl a16 => some a16
            | .inr b17 => (Option.bind (L0_16 N N ((0 : Int), b17.1, b17.2.1, b17.2.2.1, b17.2.2.2.1, b17.2.2.2.2.1, b17.2.2.2.2.2.1, b17.2.2.2.2.2.2.1, b17.2.2.2.2.2.2.2.1, b17.2.2.2.2.2.2.2.2.1, b17.2.2.2.2.2.2.2.2.2)) fun y32 =>
              (match y32 with
              | .inl a33 => some a33
              | .inr b34 => some true)))))))))) := by kernel_rfl
def c23 (N : Nat) : Sym.Callee := ⟨f23.args, f23.ta, f23.res, f23.tr, 0, F23 N⟩
theorem ok23 (N : Nat) : CalOK tab 23 (c23 N) := fn_ok (f23.ok2 N) fuelW 23 f23.args f23.ta f23.res f23.tr 0

/- wreckage/wreckageref43.SameEdit -/
namespace f38
def cuts : Nat → Nat → Option Outs := fun _ _ => none
def ccut : Nat → Nat → Option Outs := fun _ _ => none
def ety : Nat → Nat → Option Ty := fun _ _ => none
def args : List PSh := [.agg [.int .u8, .int .i64, .int .i64, .int .u8, .int .i64, .int .i64, .int .u8, .int .i64, .sl TFrameState .bor, .sl TDeferState .bor, .sl TPanicState .bor], .agg [.int .u8, .int .i64, .int .i64, .int .u8, .int .i64, .int .i64, .int .u8, .int .i64, .sl TFrameState .bor, .sl TDeferState .bor, .sl TPanicState .bor]]
def ta : List Ty := [(.int .u8), (.int .i64), (.int .i64), (.int .u8), (.int .i64), (.int .i64), (.int .u8), (.int .i64), (.sl TFrameState), (.sl TDeferState), (.sl TPanicState), (.int .u8), (.int .i64), (.int .i64), (.int .u8), (.int .i64), (.int .i64), (.int .u8), (.int .i64), (.sl TFrameState), (.sl TDeferState), (.sl TPanicState)]
def res : List (Bool × List CSh) := [(false, [.bool])]
def tr : List Ty := [.bool]
def E0 (N : Nat) : SEnv := (SEnv.base tab cuts ccut ety).addCal 23 (c23 N)
theorem ok0 (N : Nat) : EnvOK tab (E0 N) := (base_ok tab cuts ccut ety).addCal (ok23 N)
end f38
def F38 (N : Nat) (x : (Int) × (Int) × (Int) × (Int) × (Int) × (Int) × (Int) × (Int) × (List (FrameState)) × (List (DeferState)) × (List (PanicState)) × (Int) × (Int) × (Int) × (Int) × (Int) × (Int) × (Int) × (Int) × (List (FrameState)) × (List (DeferState)) × List (PanicState)) : Option (Bool) := fnRun (f38.E0 N) fuelW 38 f38.args f38.ta f38.res f38.tr 0 x
open f38 in
theorem F38_eq (N : Nat) (p0 : Int) (p1 : Int) (p2 : Int) (p3 : Int) (p4 : Int) (p5 : Int) (p6 : Int) (p7 : Int) (p8 : List (FrameState)) (p9 : List (DeferState)) (p10 : List (PanicState)) (p11 : Int) (p12 : Int) (p13 : Int) (p14 : Int) (p15 : Int) (p16 : Int) (p17 : Int) (p18 : Int) (p19 : List (FrameState)) (p20 : List (DeferState)) (p21 : List (PanicState)) : F38 N (p0, p1, p2, p3, p4, p5, p6, p7, p8, p9, p10, p11, p12, p13, p14, p15, p16, p17, p18, p19, p20, p21) =
  (bif (p0 == p11)
  then (bif (p1 == p12)
    then (bif (p2 == p13)
      then (bif (p3 == p14)
        then (bif (p4 == p15)
          then (bif (p5 == p16)
            then (Option.bind (F23 N (p6, p7, p8, p9, p10, p17, p18, p19, p20, p21)) fun y0 =>
              some y0)
            else some false)
          else some false)
        else some false)
      else some false)
    else some false)
  else some false) := by kernel_rfl
def c38 (N : Nat) : Sym.Callee := ⟨f38.args, f38.ta, f38.res, f38.tr, 0, F38 N⟩
theorem ok38 (N : Nat) : CalOK tab 38 (c38 N) := fn_ok (f38.ok0 N) fuelW 38 f38.args f38.ta f38.res f38.tr 0

/- wreckage/wreckageref43.Check -/
namespace f27
def cuts : Nat → Nat → Option Outs := fun c i => match c, i with
  | 0, 29 => some [(.normal, ⟨[(97, .c (.bool))], [], [], 1, [], 0, [.bool]⟩)]
  | 0, 7 => some [(.normal, ⟨[(1, .c (.ptr 0 1 0 0 0)), (3, .c (.ptr 0 3 1 0 0)), (4, .c (.ptr 0 4 2 0 0))], [], [(0, 1, .box 0 [.int .u8, .int .i64, .int .i64, .int .u8, .int .i64, .int .i64, .int .u8, .int .i64, .sl TFrameState .bor, .sl TDeferState .bor, .sl TPanicState .bor]), (0, 3, .box 1 [.int .u8, .int .i64, .int .i64, .int .u8, .int .i64, .int .i64, .int .u8, .int .i64, .sl TFrameState .bor, .sl TDeferState .bor, .sl TPanicState .bor]), (0, 4, .box 2 [.int .u8, .int .i64, .sl TFrameState .bor, .sl TDeferState .bor, .sl TPanicState .bor])], 1, [], 3, [(.int .u8), (.int .i64), (.int .i64), (.int .u8), (.int .i64), (.int .i64), (.int .u8), (.int .i64), (.sl TFrameState), (.sl TDeferState), (.sl TPanicState), (.int .u8), (.int .i64), (.int .i64), (.int .u8), (.int .i64), (.int .i64), (.int .u8), (.int .i64), (.sl TFrameState), (.sl TDeferState), (.sl TPanicState), (.int .u8), (.int .i64), (.sl TFrameState), (.sl TDeferState), (.sl TPanicState)]⟩), (.ret, ⟨[(2, .c (.int .i64))], [], [], 1, [], 0, [(.int .i64)]⟩)]
  | 0, 4 => some [(.normal, ⟨[(1, .c (.ptr 0 1 0 0 0)), (3, .c (.ptr 0 3 1 0 0)), (4, .c (.ptr 0 4 2 0 0))], [], [(0, 1, .box 0 [.int .u8, .int .i64, .int .i64, .int .u8, .int .i64, .int .i64, .int .u8, .int .i64, .sl TFrameState .bor, .sl TDeferState .bor, .sl TPanicState .bor]), (0, 3, .box 1 [.int .u8, .int .i64, .int .i64, .int .u8, .int .i64, .int .i64, .int .u8, .int .i64, .nil true, .nil true, .nil true]), (0, 4, .box 2 [.int .u8, .int .i64, .sl TFrameState .bor, .sl TDeferState .bor, .sl TPanicState .bor])], 1, [], 3, [(.int .u8), (.int .i64), (.int .i64), (.int .u8), (.int .i64), (.int .i64), (.int .u8), (.int .i64), (.sl TFrameState), (.sl TDeferState), (.sl TPanicState), (.int .u8), (.int .i64), (.int .i64), (.int .u8), (.int .i64), (.int .i64), (.int .u8), (.int .i64), (.int .u8), (.int .i64), (.sl TFrameState), (.sl TDeferState), (.sl TPanicState)]⟩)]
  | 0, 3 => some [(.normal, ⟨[(1, .c (.ptr 0 1 0 0 0)), (3, .c (.ptr 0 3 1 0 0)), (4, .c (.ptr 0 4 2 0 0)), (17, .c (.bool))], [], [(0, 1, .box 0 [.int .u8, .int .i64, .int .i64, .int .u8, .int .i64, .int .i64, .int .u8, .int .i64, .sl TFrameState .bor, .sl TDeferState .bor, .sl TPanicState .bor]), (0, 3, .box 1 [.int .u8, .int .i64, .int .i64, .int .u8, .int .i64, .int .i64, .int .u8, .int .i64, .nil true, .nil true, .nil true]), (0, 4, .box 2 [.int .u8, .int .i64, .sl TFrameState .bor, .sl TDeferState .bor, .sl TPanicState .bor])], 1, [], 3, [.bool, (.int .u8), (.int .i64), (.int .i64), (.int .u8), (.int .i64), (.int .i64), (.int .u8), (.int .i64), (.sl TFrameState), (.sl TDeferState), (.sl TPanicState), (.int .u8), (.int .i64), (.int .i64), (.int .u8), (.int .i64), (.int .i64), (.int .u8), (.int .i64), (.int .u8), (.int .i64), (.sl TFrameState), (.sl TDeferState), (.sl TPanicState)]⟩)]
  | _, _ => none
def ccut : Nat → Nat → Option Outs := fun _ _ => none
def ety : Nat → Nat → Option Ty := fun _ _ => none
def args : List PSh := [.agg [.int .u8, .int .i64, .int .i64, .int .u8, .int .i64, .int .i64, .int .u8, .int .i64, .sl TFrameState .bor, .sl TDeferState .bor, .sl TPanicState .bor]]
def ta : List Ty := [(.int .u8), (.int .i64), (.int .i64), (.int .u8), (.int .i64), (.int .i64), (.int .u8), (.int .i64), (.sl TFrameState), (.sl TDeferState), (.sl TPanicState)]
def res : List (Bool × List CSh) := [(false, [.int .i64])]
def tr : List Ty := [(.int .i64)]
def E0 (N : Nat) : SEnv := ((SEnv.base tab cuts ccut ety).addCal 38 (c38 N)).addCal 55 (c55 N)
theorem ok0 (N : Nat) : EnvOK tab (E0 N) := ((base_ok tab cuts ccut ety).addCal (ok38 N)).addCal (ok55 N)
end f27
def F27 (N : Nat) (x : (Int) × (Int) × (Int) × (Int) × (Int) × (Int) × (Int) × (Int) × (List (FrameState)) × (List (DeferState)) × List (PanicState)) : Option (Int) := fnRun (f27.E0 N) fuelW 27 f27.args f27.ta f27.res f27.tr 0 x
open f27 in
theorem F27_eq (N : Nat) (p0 : Int) (p1 : Int) (p2 : Int) (p3 : Int) (p4 : Int) (p5 : Int) (p6 : Int) (p7 : Int) (p8 : List (FrameState)) (p9 : List (DeferState)) (p10 : List (PanicState)) : F27 N (p0, p1, p2, p3, p4, p5, p6, p7, p8, p9, p10) =
  (Option.bind ((bif (decide (p0 ≥ (2 : Int)))
    then some ((decide (p0 ≤ (6 : Int))), p0, p1, p2, p3, p4, p5, p6, p7, p8, p9, p10, p0, (0 : Int), (0 : Int), (0 : Int), (0 : Int), (0 : Int), (0 : Int), (0 : Int), p6, p7, p8, p9, p10)
    else some (false, p0, p1, p2, p3, p4, p5, p6, p7, p8, p9, p10, p0, (0 : Int), (0 : Int), (0 : Int), (0 : Int), (0 : Int), (0 : Int), (0 : Int), p6, p7, p8, p9, p10))) fun y0 =>
  (Option.bind ((bif y0.1
    then some (y0.2.1, y0.2.2.1, y0.2.2.2.1, y0.2.2.2.2.1, y0.2.2.2.2.2.1, y0.2.2.2.2.2.2.1, y0.2.2.2.2.2.2.2.1, y0.2.2.2.2.2.2.2.2.1, y0.2.2.2.2.2.2.2.2.2.1, y0.2.2.2.2.2.2.2.2.2.2.1, y0.2.2.2.2.2.2.2.2.2.2.2.1, y0.2.2.2.2.2.2.2.2.2.2.2.2.1, y0.2.2.1, y0.2.2.2.2.2.2.2.2.2.2.2.2.2.2.1, y0.2.2.2.2.2.2.2.2.2.2.2.2.2.2.2.1, y0.2.2.2.2.2.2.2.2.2.2.2.2.2.2.2.2.1, y0.2.2.2.2.2.2.2.2.2.2.2.2.2.2.2.2.2.1, y0.2.2.2.2.2.2.2.2.2.2.2.2.2.2.2.2.2.2.1, y0.2.2.2.2.2.2.2.2.2.2.2.2.2.2.2.2.2.2.2.1, y0.2.2.2.2.2.2.2.2.2.2.2.2.2.2.2.2.2.2.2.2.1, y0.2.2.2.2.2.2.2.2.2.2.2.2.2.2.2.2.2.2.2.2.2.1, y0.2.2.2.2.2.2.2.2.2.2.2.2.2.2.2.2.2.2.2.2.2.2.1, y0.2.2.2.2.2.2.2.2.2.2.2.2.2.2.2.2.2.2.2.2.2.2.2.1, y0.2.2.2.2.2.2.2.2.2.2.2.2.2.2.2.2.2.2.2.2.2.2.2.2)
    else some (y0.2.1, y0.2.2.1, y0.2.2.2.1, y0.2.2.2.2.1, y0.2.2.2.2.2.1, y0.2.2.2.2.2.2.1, y0.2.2.2.2.2.2.2.1, y0.2.2.2.2.2.2.2.2.1, y0.2.2.2.2.2.2.2.2.2.1, y0.2.2.2.2.2.2.2.2.2.2.1, y0.2.2.2.2.2.2.2.2.2.2.2.1, y0.2.2.2.2.2.2.2.2.2.2.2.2.1, y0.2.2.2.2.2.2.2.2.2.2.2.2.2.1, y0.2.2.2.2.2.2.2.2.2.2.2.2.2.2.1, y0.2.2.2.2.2.2.2.2.2.2.2.2.2.2.2.1, y0.2.2.2.2.2.2.2.2.2.2.2.2.2.2.2.2.1, y0.2.2.2.2.2.2.2.2.2.2.2.2.2.2.2.2.2.1, y0.2.2.2.2.2.2.2.2.2.2.2.2.2.2.2.2.2.2.1, y0.2.2.2.2.2.2.2.2.2.2.2.2.2.2.2.2.2.2.2.1, y0.2.2.2.2.2.2.2.2.2.2.2.2.2.2.2.2.2.2.2.2.1, y0.2.2.2.2.2.2.2.2.2.2.2.2.2.2.2.2.2.2.2.2.2.1, y0.2.2.2.2.2.2.2.2.2.2.2.2.2.2.2.2.2.2.2.2.2.2.1, y0.2.2.2.2.2.2.2.2.2.2.2.2.2.2.2.2.2.2.2.2.2.2.2.1, y0.2.2.2.2.2.2.2.2.2.2.2.2.2.2.2.2.2.2.2.2.2.2.2.2))) fun y1 =>
  (Option.bind ((bif (y1.1 == (1 : Int))
    then some (Sum.inl (y1.1, y1.2.1, y1.2.2.1, y1.2.2.2.1, y1.2.2.2.2.1, y1.2.2.2.2.2.1, y1.2.2.2.2.2.2.1, y1.2.2.2.2.2.2.2.1, y1.2.2.2.2.2.2.2.2.1, y1.2.2.2.2.2.2.2.2.2.1, y1.2.2.2.2.2.2.2.2.2.2.1, y1.2.2.2.2.2.2.2.2.2.2.2.1, y1.2.2.2.2.2.2.2.2.2.2.2.2.1, y1.2.2.2.2.2.2.2.2.2.2.2.2.2.1, y1.2.2.2.1, y1.2.2.2.2.1, y1.2.2.2.2.2.1, y1.2.2.2.2.2.2.2.2.2.2.2.2.2.2.2.2.2.1, y1.2.2.2.2.2.2.2.2.2.2.2.2.2.2.2.2.2.2.1, [], [], [], y1.2.2.2.2.2.2.2.2.2.2.2.2.2.2.2.2.2.2.2.1, y1.2.2.2.2.2.2.2.2.2.2.2.2.2.2.2.2.2.2.2.2.1, y1.2.2.2.2.2.2.2.2.2.2.2.2.2.2.2.2.2.2.2.2.2.1, y1.2.2.2.2.2.2.2.2.2.2.2.2.2.2.2.2.2.2.2.2.2.2.1, y1.2.2.2.2.2.2.2.2.2.2.2.2.2.2.2.2.2.2.2.2.2.2.2))
    else (bif (y1.1 == (2 : Int))
      then some (Sum.inl (y1.1, y1.2.1, y1.2.2.1, y1.2.2.2.1, y1.2.2.2.2.1, y1.2.2.2.2.2.1, y1.2.2.2.2.2.2.1, y1.2.2.2.2.2.2.2.1, y1.2.2.2.2.2.2.2.2.1, y1.2.2.2.2.2.2.2.2.2.1, y1.2.2.2.2.2.2.2.2.2.2.1, y1.2.2.2.2.2.2.2.2.2.2.2.1, y1.2.2.2.2.2.2.2.2.2.2.2.2.1, y1.2.2.2.2.2.2.2.2.2.2.2.2.2.1, y1.2.2.2.2.2.2.2.2.2.2.2.2.2.2.1, y1.2.2.2.2.2.2.2.2.2.2.2.2.2.2.2.1, y1.2.2.2.2.2.2.2.2.2.2.2.2.2.2.2.2.1, y1.2.2.2.2.2.2.2.2.2.2.2.2.2.2.2.2.2.2.2.1, y1.2.2.2.2.2.2.2.2.2.2.2.2.2.2.2.2.2.2.2.2.1, [], [], [], y1.2.2.2.2.2.2.2.2.2.2.2.2.2.2.2.2.2.2.2.1, y1.2.2.2.2.2.2.2.2.2.2.2.2.2.2.2.2.2.2.2.2.1, y1.2.2.2.2.2.2.2.2.2.2.2.2.2.2.2.2.2.2.2.2.2.1, y1.2.2.2.2.2.2.2.2.2.2.2.2.2.2.2.2.2.2.2.2.2.2.1, y1.2.2.2.2.2.2.2.2.2.2.2.2.2.2.2.2.2.2.2.2.2.2.2))
      else (bif (y1.1 == (3 : Int))
        then some (Sum.inl (y1.1, y1.2.1, y1.2.2.1, y1.2.2.2.1, y1.2.2.2.2.1, y1.2.2.2.2.2.1, y1.2.2.2.2.2.2.1, y1.2.2.2.2.2.2.2.1, y1.2.2.2.2.2.2.2.2.1, y1.2.2.2.2.2.2.2.2.2.1, y1.2.2.2.2.2.2.2.2.2.2.1, y1.2.2.2.2.2.2.2.2.2.2.2.1, y1.2.2.2.2.2.2.2.2.2.2.2.2.1, y1.2.2.1, y1.2.2.2.2.2.2.2.2.2.2.2.2.2.2.1, y1.2.2.2.2.2.2.2.2.2.2.2.2.2.2.2.1, y1.2.2.2.2.2.2.2.2.2.2.2.2.2.2.2.2.1, (0 : Int), (0 : Int), y1.2.2.2.2.2.2.2.2.2.2.2.2.2.2.2.2.2.2.2.2.2.1, [], [], y1.2.2.2.2.2.2.2.2.2.2.2.2.2.2.2.2.2.2.2.1, y1.2.2.2.2.2.2.2.2.2.2.2.2.2.2.2.2.2.2.2.2.1, y1.2.2.2.2.2.2.2.2.2.2.2.2.2.2.2.2.2.2.2.2.2.1, y1.2.2.2.2.2.2.2.2.2.2.2.2.2.2.2.2.2.2.2.2.2.2.1, y1.2.2.2.2.2.2.2.2.2.2.2.2.2.2.2.2.2.2.2.2.2.2.2))
        else (bif (y1.1 == (4 : Int))
          then some (Sum.inl (y1.1, y1.2.1, y1.2.2.1, y1.2.2.2.1, y1.2.2.2.2.1, y1.2.2.2.2.2.1, y1.2.2.2.2.2.2.1, y1.2.2.2.2.2.2.2.1, y1.2.2.2.2.2.2.2.2.1, y1.2.2.2.2.2.2.2.2.2.1, y1.2.2.2.2.2.2.2.2.2.2.1, y1.2.2.2.2.2.2.2.2.2.2.2.1, y1.2.2.2.2.2.2.2.2.2.2.2.2.1, y1.2.2.2.2.2.2.2.2.2.2.2.2.2.1, y1.2.2.2.2.2.2.2.2.2.2.2.2.2.2.1, y1.2.2.2.2.2.2.2.2.2.2.2.2.2.2.2.1, y1.2.2.2.2.2.2.2.2.2.2.2.2.2.2.2.2.1, (0 : Int), (0 : Int), [], y1.2.2.2.2.2.2.2.2.2.2.2.2.2.2.2.2.2.2.2.2.2.2.1, [], y1.2.2.2.2.2.2.2.2.2.2.2.2.2.2.2.2.2.2.2.1, y1.2.2.2.2.2.2.2.2.2.2.2.2.2.2.2.2.2.2.2.2.1, y1.2.2.2.2.2.2.2.2.2.2.2.2.2.2.2.2.2.2.2.2.2.1, y1.2.2.2.2.2.2.2.2.2.2.2.2.2.2.2.2.2.2.2.2.2.2.1, y1.2.2.2.2.2.2.2.2.2.2.2.2.2.2.2.2.2.2.2.2.2.2.2))
          else (bif (y1.1 == (5 : Int))
            then some (Sum.inl (y1.1, y1.2.1, y1.2.2.1, y1.2.2.2.1, y1.2.2.2.2.1, y1.2.2.2.2.2.1, y1.2.2.2.2.2.2.1, y1.2.2.2.2.2.2.2.1, y1.2.2.2.2.2.2.2.2.1, y1.2.2.2.2.2.2.2.2.2.1, y1.2.2.2.2.2.2.2.2.2.2.1, y1.2.2.2.2.2.2.2.2.2.2.2.1, y1.2.2.2.2.2.2.2.2.2.2.2.2.1, y1.2.2.2.2.2.2.2.2.2.2.2.2.2.1, y1.2.2.2.2.2.2.2.2.2.2.2.2.2.2.1, y1.2.2.2.2.2.2.2.2.2.2.2.2.2.2.2.1, y1.2.2.2.2.2.2.2.2.2.2.2.2.2.2.2.2.1, (0 : Int), (0 : Int), [], [], y1.2.2.2.2.2.2.2.2.2.2.2.2.2.2.2.2.2.2.2.2.2.2.2, y1.2.2.2.2.2.2.2.2.2.2.2.2.2.2.2.2.2.2.2.1, y1.2.2.2.2.2.2.2.2.2.2.2.2.2.2.2.2.2.2.2.2.1, y1.2.2.2.2.2.2.2.2.2.2.2.2.2.2.2.2.2.2.2.2.2.1, y1.2.2.2.2.2.2.2.2.2.2.2.2.2.2.2.2.2.2.2.2.2.2.1, y1.2.2.2.2.2.2.2.2.2.2.2.2.2.2.2.2.2.2.2.2.2.2.2))
            else (bif (y1.1 == (6 : Int))
              then some (Sum.inl (y1.1, y1.2.1, y1.2.2.1, y1.2.2.2.1, y1.2.2.2.2.1, y1.2.2.2.2.2.1, y1.2.2.2.2.2.2.1, y1.2.2.2.2.2.2.2.1, y1.2.2.2.2.2.2.2.2.1, y1.2.2.2.2.2.2.2.2.2.1, y1.2.2.2.2.2.2.2.2.2.2.1, y1.2.2.2.2.2.2.2.2.2.2.2.1, y1.2.2.2.2.2.2.2.2.2.2.2.2.1, y1.2.2.2.2.2.2.2.2.2.2.2.2.2.1, y1.2.2.2.2.2.2.2.2.2.2.2.2.2.2.1, y1.2.2.2.2.2.2.2.2.2.2.2.2.2.2.2.1, y1.2.2.2.2.2.2.2.2.2.2.2.2.2.2.2.2.1, y1.2.2.2.2.2.2.2.2.2.2.2.2.2.2.2.2.2.1, y1.2.2.2.2.2.2.2.2.2.2.2.2.2.2.2.2.2.2.1, [], [], [], y1.2.2.2.2.2.2.2.2.2.2.2.2.2.2.2.2.2.2.2.1, y1.2.2.2.2.2.2.2.2.2.2.2.2.2.2.2.2.2.2.2.2.1, y1.2.2.2.2.2.2.2.2.2.2.2.2.2.2.2.2.2.2.2.2.2.1, y1.2.2.2.2.2.2.2.2.2.2.2.2.2.2.2.2.2.2.2.2.2.2.1, y1.2.2.2.2.2.2.2.2.2.2.2.2.2.2.2.2.2.2.2.2.2.2.2))
              else (bif (y1.1 == (7 : Int))
                then some (Sum.inl (y1.1, y1.2.1, y1.2.2.1, y1.2.2.2.1, y1.2.2.2.2.1, y1.2.2.2.2.2.1, y1.2.2.2.2.2.2.1, y1.2.2.2.2.2.2.2.1, y1.2.2.2.2.2.2.2.2.1, y1.2.2.2.2.2.2.2.2.2.1, y1.2.2.2.2.2.2.2.2.2.2.1, y1.2.2.2.2.2.2.2.2.2.2.2.1, y1.2.2.2.2.2.2.2.2.2.2.2.2.1, y1.2.2.2.2.2.2.2.2.2.2.2.2.2.1, y1.2.2.2.2.2.2.2.2.2.2.2.2.2.2.1, y1.2.2.2.2.2.2.2.2.2.2.2.2.2.2.2.1, y1.2.2.2.2.2.2.2.2.2.2.2.2.2.2.2.2.1, y1.2.2.2.2.2.2.2.2.2.2.2.2.2.2.2.2.2.2.2.1, y1.2.2.2.2.2.2.2.2.2.2.2.2.2.2.2.2.2.2.2.2.1, y1.2.2.2.2.2.2.2.2.2.2.2.2.2.2.2.2.2.2.2.2.2.1, y1.2.2.2.2.2.2.2.2.2.2.2.2.2.2.2.2.2.2.2.2.2.2.1, y1.2.2.2.2.2.2.2.2.2.2.2.2.2.2.2.2.2.2.2.2.2.2.2, y1.2.2.2.2.2.2.2.2.2.2.2.2.2.2.2.2.2.2.2.1, y1.2.2.2.2.2.2.2.2.2.2.2.2.2.2.2.2.2.2.2.2.1, y1.2.2.2.2.2.2.2.2.2.2.2.2.2.2.2.2.2.2.2.2.2.1, y1.2.2.2.2.2.2.2.2.2.2.2.2.2.2.2.2.2.2.2.2.2.2.1, y1.2.2.2.2.2.2.2.2.2.2.2.2.2.2.2.2.2.2.2.2.2.2.2))
                else some (Sum.inr (8 : Int)))))))))) fun y2 =>
  (match y2 with
  | .inl a3 => (Option.bind ((Option.bind (F38 N (a3.1, a3.2.1, a3.2.2.1, a3.2.2.2.1, a3.2.2.2.2.1, a3.2.2.2.2.2.1, a3.2.2.2.2.2.2.1, a3.2.2.2.2.2.2.2.1, a3.2.2.2.2.2.2.2.2.1, a3.2.2.2.2.2.2.2.2.2.1, a3.2.2.2.2.2.2.2.2.2.2.1, a3.2.2.2.2.2.2.2.2.2.2.2.1, a3.2.2.2.2.2.2.2.2.2.2.2.2.1, a3.2.2.2.2.2.2.2.2.2.2.2.2.2.1, a3.2.2.2.2.2.2.2.2.2.2.2.2.2.2.1, a3.2.2.2.2.2.2.2.2.2.2.2.2.2.2.2.1, a3.2.2.2.2.2.2.2.2.2.2.2.2.2.2.2.2.1, a3.2.2.2.2.2.2.2.2.2.2.2.2.2.2.2.2.2.1, a3.2.2.2.2.2.2.2.2.2.2.2.2.2.2.2.2.2.2.1, a3.2.2.2.2.2.2.2.2.2.2.2.2.2.2.2.2.2.2.2.1, a3.2.2.2.2.2.2.2.2.2.2.2.2.2.2.2.2.2.2.2.2.1, a3.2.2.2.2.2.2.2.2.2.2.2.2.2.2.2.2.2.2.2.2.2.1)) fun y5 =>
      (bif (!y5)
      then some true
      else (bif (decide (a3.2.1 < (0 : Int)))
        then some true
        else (bif (decide (a3.2.1 ≥ (16 : Int)))
          then some true
          else (bif (decide (a3.2.2.1 < (0 : Int)))
            then some true
            else (bif (decide (a3.2.2.1 > (170 : Int)))
              then some true
              else (Option.bind (F55 N (a3.2.2.2.2.2.2.2.2.2.2.2.2.2.2.2.2.2.2.2.2.2.2.1, a3.2.2.2.2.2.2.2.2.2.2.2.2.2.2.2.2.2.2.2.2.2.2.2.1, a3.2.2.2.2.2.2.2.2.2.2.2.2.2.2.2.2.2.2.2.2.2.2.2.2.1, a3.2.2.2.2.2.2.2.2.2.2.2.2.2.2.2.2.2.2.2.2.2.2.2.2.2.1, a3.2.2.2.2.2.2.2.2.2.2.2.2.2.2.2.2.2.2.2.2.2.2.2.2.2.2)) fun y6 =>
                some (!y6))))))))) fun y7 =>
    (bif y7
    then some (8 : Int)
    else some (0 : Int)))
  | .inr b4 => some b4)))) := by kernel_rfl
def c27 (N : Nat) : Sym.Callee := ⟨f27.args, f27.ta, f27.res, f27.tr, 0, F27 N⟩
theorem ok27 (N : Nat) : CalOK tab 27 (c27 N) := fn_ok (f27.ok0 N) fuelW 27 f27.args f27.ta f27.res f27.tr 0

/- wreckage/wreckageref43.All -/
namespace f53
def cuts : Nat → Nat → Option Outs := fun _ _ => none
def ccut : Nat → Nat → Option Outs := fun _ _ => none
def ety : Nat → Nat → Option Ty := fun _ _ => none
def args : List PSh := [.c (.sl TEdit .bor)]
def ta : List Ty := [(.sl TEdit)]
def res : List (Bool × List CSh) := [(false, [.int .i64])]
def tr : List Ty := [(.int .i64)]
def E0 (N : Nat) : SEnv := (SEnv.base tab cuts ccut ety).addCal 27 (c27 N)
theorem ok0 (N : Nat) : EnvOK tab (E0 N) := (base_ok tab cuts ccut ety).addCal (ok27 N)
def T0_6 : Tmpl := ⟨[(0, .c (.sl TEdit .bor)), (3, .c (.int .i64))], [], [], 1, [], 0, [(.sl TEdit), (.int .i64)]⟩
def O0_6 : Outs := [(.ret, ⟨[(2, .c (.int .i64))], [], [], 1, [], 0, [(.int .i64)]⟩), (.exit 0, ⟨[], [], [], 1, [], 0, []⟩)]
def L0_6 (N : Nat) (k : Nat) (x : (List (Edit)) × Int) : Option ((Int) ⊕ (Unit)) := loopF (loopStep (E0 N) fuelW 0 6 (bodyAt t53 6) T0_6 O0_6) k x
theorem L0_6_succ (N : Nat) (k : Nat) (v0 : List (Edit)) (v1 : Int) : L0_6 N (k + 1) (v0, v1) =
  (bif (decide (v1 < (v0.length : Int)))
  then (Option.bind (idx v0 v1) fun x2 =>
    (Option.bind (F27 N (x2.1, x2.2.1, x2.2.2.1, x2.2.2.2.1, x2.2.2.2.2.1, x2.2.2.2.2.2.1, x2.2.2.2.2.2.2.1, x2.2.2.2.2.2.2.2.1, x2.2.2.2.2.2.2.2.2.1, x2.2.2.2.2.2.2.2.2.2.1, x2.2.2.2.2.2.2.2.2.2.2)) fun y3 =>
    (bif (y3 != (0 : Int))
    then some (Sum.inl y3)
    else L0_6 N k (v0, (wi64 (v1 + (1 : Int)))))))
  else some (Sum.inr ())) := by kernel_rfl
def E1 (N : Nat) : SEnv := (E0 N).addLoop N 0 6 T0_6 O0_6
theorem ok1 (N : Nat) : EnvOK tab (E1 N) := (ok0 N).addLoop N 0 6 T0_6 O0_6
end f53
def F53 (N : Nat) (x : List (Edit)) : Option (Int) := fnRun (f53.E1 N) fuelW 53 f53.args f53.ta f53.res f53.tr 0 x
open f53 in
theorem F53_eq (N : Nat) (p0 : List (Edit)) : F53 N p0 =
  (bif (decide ((p0.length : Int) > (100 : Int)))
  then some (4 : Int)
  else (Option.bind (L0_6 N N (p0, (0 : Int))) fun y4 =>
    (match y4 with
    | .inl a5 => some a5
    | .inr b6 => some (0 : Int)))) := by kernel_rfl
def c53 (N : Nat) : Sym.Callee := ⟨f53.args, f53.ta, f53.res, f53.tr, 0, F53 N⟩
theorem ok53 (N : Nat) : CalOK tab 53 (c53 N) := fn_ok (f53.ok1 N) fuelW 53 f53.args f53.ta f53.res f53.tr 0

/- wreckage/wreckageref43.made -/
namespace f54
def cuts : Nat → Nat → Option Outs := fun _ _ => none
def ccut : Nat → Nat → Option Outs := fun _ _ => none
def ety : Nat → Nat → Option Ty := fun c d => match c, d with
  | 0, 9 => some TRoutineState
  | 0, 34 => some TRoutineState
  | 0, 80 => some TFrameState
  | _, _ => none
def args : List PSh := [.agg [.int .u8, .int .i64, .int .i64, .sl TRoutineState .d], .agg [.int .u8, .int .i64, .int .i64, .int .u8, .int .i64, .int .i64, .int .u8, .int .i64, .sl TFrameState .d, .sl TDeferState .d, .sl TPanicState .d]]
def ta : List Ty := [(.int .u8), (.int .i64), (.int .i64), (.sl TRoutineState), (.int .u8), (.int .i64), (.int .i64), (.int .u8), (.int .i64), (.int .i64), (.int .u8), (.int .i64), (.sl TFrameState), (.sl TDeferState), (.sl TPanicState)]
def res : List (Bool × List CSh) := [(true, [.int .u8, .int .i64, .int .i64, .sl TRoutineState .d]), (false, [.bool])]
def tr : List Ty := [(.int .u8), (.int .i64), (.int .i64), (.sl TRoutineState), .bool]
def E0 (N : Nat) : SEnv := (SEnv.base tab cuts ccut ety).addCal 34 (c34 N)
theorem ok0 (N : Nat) : EnvOK tab (E0 N) := (base_ok tab cuts ccut ety).addCal (ok34 N)
end f54
def F54 (N : Nat) (x : (Int) × (Int) × (Int) × (List (RoutineState)) × (Int) × (Int) × (Int) × (Int) × (Int) × (Int) × (Int) × (Int) × (List (FrameState)) × (List (DeferState)) × List (PanicState)) : Option ((Int) × (Int) × (Int) × (List (RoutineState)) × Bool) := fnRun (f54.E0 N) fuelW 54 f54.args f54.ta f54.res f54.tr 0 x
open f54 in
theorem F54_eq (N : Nat) (p0 : Int) (p1 : Int) (p2 : Int) (p3 : List (RoutineState)) (p4 : Int) (p5 : Int) (p6 : Int) (p7 : Int) (p8 : Int) (p9 : Int) (p10 : Int) (p11 : Int) (p12 : List (FrameState)) (p13 : List (DeferState)) (p14 : List (PanicState)) : F54 N (p0, p1, p2, p3, p4, p5, p6, p7, p8, p9, p10, p11, p12, p13, p14) =
  (chk (room (0 + p3.length) 88)
  ((bif (p4 == (1 : Int))
  then some (p7, p8, p9, ([] ++ p3), true)
  else (bif (p4 == (7 : Int))
    then (chk (room (([] ++ p3).length + 1) 88)
      ((Option.bind (F34 N (p0, p1, p2, (([] ++ p3) ++ [(p10, p11, p12, p13, p14)]))) fun y0 =>
      some (p0, p1, p2, (([] ++ p3) ++ [(p10, p11, p12, p13, p14)]), y0))))
    else (bif (decide (p5 ≥ (p3.length : Int)))
      then some ((0 : Int), (0 : Int), (0 : Int), [], false)
      else (chk (inR p5 ([] ++ p3).length)
        ((bif (p4 == (2 : Int))
        then (Option.bind (([] ++ p3)[(Int.toNat p5)]?) fun x1 =>
          (Option.bind ((([] ++ p3).set (Int.toNat p5) (p10, x1.2))[(Int.toNat p5)]?) fun x2 =>
          (Option.bind (F34 N (p0, p1, p2, ((([] ++ p3).set (Int.toNat p5) (p10, x1.2)).set (Int.toNat p5) (x2.1, p11, x2.2.2)))) fun y3 =>
          some (p0, p1, p2, ((([] ++ p3).set (Int.toNat p5) (p10, x1.2)).set (Int.toNat p5) (x2.1, p11, x2.2.2)), y3))))
        else (bif (p4 == (3 : Int))
          then (Option.bind (([] ++ p3)[(Int.toNat p5)]?) fun x4 =>
            (bif (decide (p6 > (x4.2.2.1.length : Int)))
            then some ((0 : Int), (0 : Int), (0 : Int), [], false)
            else (chk (room (0 + p12.length) 48)
              ((Option.bind (([] ++ p3)[(Int.toNat p5)]?) fun x5 =>
              (Option.bind (([] ++ p3)[(Int.toNat p5)]?) fun x6 =>
              (chk (decide (0 ≤ (wi64 ((x6.2.2.1.length : Int) - p6))))
              ((chk (decide ((Int.toNat (wi64 ((x6.2.2.1.length : Int) - p6))) ≤ x5.2.2.1.length))
              ((chk (room (([] ++ p12).length + (x5.2.2.1.drop (Int.toNat (wi64 ((x6.2.2.1.length : Int) - p6)))).length) 48)
              ((Option.bind (([] ++ p3)[(Int.toNat p5)]?) fun x7 =>
              (Option.bind (F34 N (p0, p1, p2, (([] ++ p3).set (Int.toNat p5) (x7.1, x7.2.1, (([] ++ p12) ++ (x5.2.2.1.drop (Int.toNat (wi64 ((x6.2.2.1.length : Int) - p6))))), x7.2.2.2)))) fun y8 =>
              some (p0, p1, p2, (([] ++ p3).set (Int.toNat p5) (x7.1, x7.2.1, (([] ++ p12) ++ (x5.2.2.1.drop (Int.toNat (wi64 ((x6.2.2.1.length : Int) - p6))))), x7.2.2.2)), y8)))))))))))))))
          else (bif (p4 == (4 : Int))
            then (Option.bind (([] ++ p3)[(Int.toNat p5)]?) fun x9 =>
              (Option.bind (F34 N (p0, p1, p2, (([] ++ p3).set (Int.toNat p5) (x9.1, x9.2.1, x9.2.2.1, p13, x9.2.2.2.2)))) fun y10 =>
              some (p0, p1, p2, (([] ++ p3).set (Int.toNat p5) (x9.1, x9.2.1, x9.2.2.1, p13, x9.2.2.2.2)), y10)))
            else (bif (p4 == (5 : Int))
              then (Option.bind (([] ++ p3)[(Int.toNat p5)]?) fun x11 =>
                (Option.bind (F34 N (p0, p1, p2, (([] ++ p3).set (Int.toNat p5) (x11.1, x11.2.1, x11.2.2.1, x11.2.2.2.1, p14)))) fun y12 =>
                some (p0, p1, p2, (([] ++ p3).set (Int.toNat p5) (x11.1, x11.2.1, x11.2.2.1, x11.2.2.2.1, p14)), y12)))
              else (bif (p4 == (6 : Int))
                then (chk (decide (0 ≤ p5))
                  ((chk (decide ((Int.toNat p5) ≤ ([] ++ p3).length))
                  ((Option.bind (F34 N (p0, p1, p2, (([] ++ p3).take (Int.toNat p5)))) fun y13 =>
                  some (p0, p1, p2, (([] ++ p3).take (Int.toNat p5)), y13))))))
                else (Option.bind (F34 N (p0, p1, p2, ([] ++ p3))) fun y14 =>
                  some (p0, p1, p2, ([] ++ p3), y14)))))))))))))) := by kernel_rfl
def c54 (N : Nat) : Sym.Callee := ⟨f54.args, f54.ta, f54.res, f54.tr, 0, F54 N⟩
theorem ok54 (N : Nat) : CalOK tab 54 (c54 N) := fn_ok (f54.ok0 N) fuelW 54 f54.args f54.ta f54.res f54.tr 0

/- wreckage/wreckageref43.Apply -/
namespace f25
def cuts : Nat → Nat → Option Outs := fun _ _ => none
def ccut : Nat → Nat → Option Outs := fun _ _ => none
def ety : Nat → Nat → Option Ty := fun _ _ => none
def args : List PSh := [.agg [.int .u8, .int .i64, .int .i64, .sl TRoutineState .d], .c (.sl TEdit .d)]
def ta : List Ty := [(.int .u8), (.int .i64), (.int .i64), (.sl TRoutineState), (.sl TEdit)]
def res : List (Bool × List CSh) := [(true, [.int .u8, .int .i64, .int .i64, .sl TRoutineState .d]), (false, [.int .i64])]
def tr : List Ty := [(.int .u8), (.int .i64), (.int .i64), (.sl TRoutineState), (.int .i64)]
def E0 (N : Nat) : SEnv := (((SEnv.base tab cuts ccut ety).addCal 34 (c34 N)).addCal 53 (c53 N)).addCal 54 (c54 N)
theorem ok0 (N : Nat) : EnvOK tab (E0 N) := (((base_ok tab cuts ccut ety).addCal (ok34 N)).addCal (ok53 N)).addCal (ok54 N)
def T0_10 : Tmpl := ⟨[(1, .c (.sl TEdit .d)), (2, .c (.ptr 0 2 0 0 0)), (4, .c (.ptr 0 4 1 0 0)), (7, .c (.int .i64))], [], [(0, 2, .box 0 [.int .u8, .int .i64, .int .i64, .sl TRoutineState .d]), (0, 4, .box 1 [.int .u8, .int .i64, .int .i64, .nil true])], 1, [], 2, [(.sl TEdit), (.int .i64), (.int .u8), (.int .i64), (.int .i64), (.sl TRoutineState), (.int .u8), (.int .i64), (.int .i64)]⟩
def O0_10 : Outs := [(.ret, ⟨[(4, .c (.ptr 0 4 0 0 0)), (5, .c (.int .i64))], [], [(0, 4, .box 0 [.int .u8, .int .i64, .int .i64, .nil true])], 1, [], 1, [(.int .i64), (.int .u8), (.int .i64), (.int .i64)]⟩), (.exit 0, ⟨[(2, .c (.ptr 0 2 0 0 0)), (4, .c (.ptr 0 4 1 0 0))], [], [(0, 2, .box 0 [.int .u8, .int .i64, .int .i64, .sl TRoutineState .d]), (0, 4, .box 1 [.int .u8, .int .i64, .int .i64, .nil true])], 1, [], 2, [(.int .u8), (.int .i64), (.int .i64), (.sl TRoutineState), (.int .u8), (.int .i64), (.int .i64)]⟩)]
def L0_10 (N : Nat) (k : Nat) (x : (List (Edit)) × (Int) × (Int) × (Int) × (Int) × (List (RoutineState)) × (Int) × (Int) × Int) : Option (((Int) × (Int) × (Int) × Int) ⊕ ((Int) × (Int) × (Int) × (List (RoutineState)) × (Int) × (Int) × Int)) := loopF (loopStep (E0 N) fuelW 0 10 (bodyAt t25 10) T0_10 O0_10) k x
theorem L0_10_succ (N : Nat) (k : Nat) (v2 : List (Edit)) (v3 : Int) (v4 : Int) (v5 : Int) (v6 : Int) (v7 : List (RoutineState)) (v8 : Int) (v9 : Int) (v10 : Int) : L0_10 N (k + 1) (v2, v3, v4, v5, v6, v7, v8, v9, v10) =
  (bif (decide (v3 < (v2.length : Int)))
  then (Option.bind (idx v2 v3) fun x11 =>
    (Option.bind (F54 N (v4, v5, v6, v7, x11.1, x11.2.1, x11.2.2.1, x11.2.2.2.1, x11.2.2.2.2.1, x11.2.2.2.2.2.1, x11.2.2.2.2.2.2.1, x11.2.2.2.2.2.2.2.1, x11.2.2.2.2.2.2.2.2.1, x11.2.2.2.2.2.2.2.2.2.1, x11.2.2.2.2.2.2.2.2.2.2)) fun y12 =>
    (bif (!y12.2.2.2.2)
    then some (Sum.inl ((2 : Int), (0 : Int), (0 : Int), (0 : Int)))
    else L0_10 N k (v2, (wi64 (v3 + (1 : Int))), y12.1, y12.2.1, y12.2.2.1, y12.2.2.2.1, v8, v9, v10))))
  else some (Sum.inr (v4, v5, v6, v7, v8, v9, v10))) := by kernel_rfl
def E1 (N : Nat) : SEnv := (E0 N).addLoop N 0 10 T0_10 O0_10
theorem ok1 (N : Nat) : EnvOK tab (E1 N) := (ok0 N).addLoop N 0 10 T0_10 O0_10
end f25
def F25 (N : Nat) (x : (Int) × (Int) × (Int) × (List (RoutineState)) × List (Edit)) : Option ((Int) × (Int) × (Int) × (List (RoutineState)) × Int) := fnRun (f25.E1 N) fuelW 25 f25.args f25.ta f25.res f25.tr 0 x
open f25 in
theorem F25_eq (N : Nat) (p0 : Int) (p1 : Int) (p2 : Int) (p3 : List (RoutineState)) (p4 : List (Edit)) : F25 N (p0, p1, p2, p3, p4) =
  (Option.bind (F34 N (p0, p1, p2, p3)) fun y0 =>
  (bif (!y0)
  then some ((0 : Int), (0 : Int), (0 : Int), [], (4 : Int))
  else (Option.bind (F53 N p4) fun y1 =>
    (bif (y1 != (0 : Int))
    then some ((0 : Int), (0 : Int), (0 : Int), [], y1)
    else (Option.bind (L0_10 N N (p4, (0 : Int), p0, p1, p2, p3, (0 : Int), (0 : Int), (0 : Int))) fun y13 =>
      (match y13 with
      | .inl a14 => some (a14.2.1, a14.2.2.1, a14.2.2.2, [], a14.1)
      | .inr b15 => some (b15.1, b15.2.1, b15.2.2.1, b15.2.2.2.1, (0 : Int)))))))) := by kernel_rfl
def c25 (N : Nat) : Sym.Callee := ⟨f25.args, f25.ta, f25.res, f25.tr, 0, F25 N⟩
theorem ok25 (N : Nat) : CalOK tab 25 (c25 N) := fn_ok (f25.ok1 N) fuelW 25 f25.args f25.ta f25.res f25.tr 0

/- wreckage/differ.Touched -/
namespace f22
def cuts : Nat → Nat → Option Outs := fun _ _ => none
def ccut : Nat → Nat → Option Outs := fun _ _ => none
def ety : Nat → Nat → Option Ty := fun c d => match c, d with
  | 0, 5 => some (.int .i64)
  | 0, 30 => some (.int .i64)
  | _, _ => none
def args : List PSh := [.c (.sl TEdit .bor)]
def ta : List Ty := [(.sl TEdit)]
def res : List (Bool × List CSh) := [(false, [.sl (.int .i64) .d]), (false, [.int .i64])]
def tr : List Ty := [(.sl (.int .i64)), (.int .i64)]
def E0 (N : Nat) : SEnv := (SEnv.base tab cuts ccut ety).addCal 41 (c41 N)
theorem ok0 (N : Nat) : EnvOK tab (E0 N) := (base_ok tab cuts ccut ety).addCal (ok41 N)
def T0_8 : Tmpl := ⟨[(5, .c (.ref 0 5 0 (.int .i64))), (13, .c (.sl TEdit .bor)), (14, .c (.int .i64)), (15, .c (.int .i64))], [], [(0, 5, .row 0 (.int .i64))], 1, [], 1, [(.sl TEdit), (.int .i64), (.int .i64), (.sl (.int .i64))]⟩
def O0_8 : Outs := [(.exit 0, ⟨[(5, .c (.ref 0 5 0 (.int .i64)))], [], [(0, 5, .row 0 (.int .i64))], 1, [], 1, [(.sl (.int .i64))]⟩)]
def L0_8 (N : Nat) (k : Nat) (x : (List (Edit)) × (Int) × (Int) × List (Int)) : Option ((List (Int))) := loopF (loopStep (E0 N) fuelW 0 8 (bodyAt t22 8) T0_8 O0_8) k x
theorem L0_8_succ (N : Nat) (k : Nat) (v1 : List (Edit)) (v2 : Int) (v3 : Int) (v4 : List (Int)) : L0_8 N (k + 1) (v1, v2, v3, v4) =
  (bif (decide (v3 < v2))
  then (Option.bind (idx v1 v3) fun x5 =>
    (bif (decide (x5.1 ≥ (2 : Int)))
    then (bif (decide (x5.1 ≤ (5 : Int)))
      then (chk (room (v4.length + 1) 8)
        (L0_8 N k (v1, v2, (wi64 (v3 + (1 : Int))), (v4 ++ [x5.2.1]))))
      else L0_8 N k (v1, v2, (wi64 (v3 + (1 : Int))), v4))
    else L0_8 N k (v1, v2, (wi64 (v3 + (1 : Int))), v4)))
  else some v4) := by kernel_rfl
def E1 (N : Nat) : SEnv := (E0 N).addLoop N 0 8 T0_8 O0_8
theorem ok1 (N : Nat) : EnvOK tab (E1 N) := (ok0 N).addLoop N 0 8 T0_8 O0_8
end f22
def F22 (N : Nat) (x : List (Edit)) : Option ((List (Int)) × Int) := fnRun (f22.E1 N) fuelW 22 f22.args f22.ta f22.res f22.tr 0 x
open f22 in
theorem F22_eq (N : Nat) (p0 : List (Edit)) : F22 N p0 =
  (Option.bind (F41 N p0) fun y0 =>
  (bif (y0 != (0 : Int))
  then some ([], y0)
  else (Option.bind (L0_8 N N (p0, (p0.length : Int), (0 : Int), ([] : List (Int)))) fun y6 =>
    (chk (decide (y6.length < 4611686018427387904))
    ((chk (decide ((sortI y6).length < 4611686018427387904))
    (some ((compI (sortI y6)), (0 : Int))))))))) := by kernel_rfl
def c22 (N : Nat) : Sym.Callee := ⟨f22.args, f22.ta, f22.res, f22.tr, 0, F22 N⟩
theorem ok22 (N : Nat) : CalOK tab 22 (c22 N) := fn_ok (f22.ok1 N) fuelW 22 f22.args f22.ta f22.res f22.tr 0

/- wreckage/wreckageref43.Touched -/
namespace f26
def cuts : Nat → Nat → Option Outs := fun _ _ => none
def ccut : Nat → Nat → Option Outs := fun _ _ => none
def ety : Nat → Nat → Option Ty := fun c d => match c, d with
  | 0, 53 => some (.int .i64)
  | _, _ => none
def args : List PSh := [.c (.sl TEdit .bor)]
def ta : List Ty := [(.sl TEdit)]
def res : List (Bool × List CSh) := [(false, [.sl (.int .i64) .d]), (false, [.int .i64])]
def tr : List Ty := [(.sl (.int .i64)), (.int .i64)]
def E0 (N : Nat) : SEnv := (SEnv.base tab cuts ccut ety).addCal 53 (c53 N)
theorem ok0 (N : Nat) : EnvOK tab (E0 N) := (base_ok tab cuts ccut ety).addCal (ok53 N)
def T0_15 : Tmpl := ⟨[(0, .c (.sl TEdit .bor)), (5, .c (.sl (.int .i64) (.app 0))), (6, .c (.int .i64)), (7, .c (.bool)), (8, .c (.int .i64))], [], [], 1, [0], 1, [(.sl TEdit), (.sl (.int .i64)), (.int .i64), .bool, (.int .i64)]⟩
def O0_15 : Outs := [(.exit 2, ⟨[(0, .c (.sl TEdit .bor)), (5, .c (.sl (.int .i64) (.app 0))), (6, .c (.int .i64)), (7, .c (.bool))], [], [], 1, [0], 1, [(.sl TEdit), (.sl (.int .i64)), (.int .i64), .bool]⟩)]
def L0_15 (N : Nat) (k : Nat) (x : (List (Edit)) × (List (Int)) × (Int) × (Bool) × Int) : Option (((List (Edit)) × (List (Int)) × (Int) × Bool)) := loopF (loopStep (E0 N) fuelW 0 15 (bodyAt t26 15) T0_15 O0_15) k x
theorem L0_15_succ (N : Nat) (k : Nat) (v4 : List (Edit)) (v5 : List (Int)) (v6 : Int) (v7 : Bool) (v8 : Int) : L0_15 N (k + 1) (v4, v5, v6, v7, v8) =
  (bif (decide (v8 < (v4.length : Int)))
  then (bif v7
    then L0_15 N k (v4, v5, v6, true, (wi64 (v8 + (1 : Int))))
    else (Option.bind (idx v4 v8) fun x9 =>
      (bif (x9.2.1 == v6)
      then (Option.bind (idx v4 v8) fun x10 =>
        (bif (decide (x10.1 ≥ (2 : Int)))
        then (Option.bind (idx v4 v8) fun x11 =>
          L0_15 N k (v4, v5, v6, (decide (x11.1 ≤ (5 : Int))), (wi64 (v8 + (1 : Int)))))
        else L0_15 N k (v4, v5, v6, false, (wi64 (v8 + (1 : Int))))))
      else L0_15 N k (v4, v5, v6, false, (wi64 (v8 + (1 : Int)))))))
  else some (v4, v5, v6, v7)) := by kernel_rfl
def E1 (N : Nat) : SEnv := (E0 N).addLoop N 0 15 T0_15 O0_15
theorem ok1 (N : Nat) : EnvOK tab (E1 N) := (ok0 N).addLoop N 0 15 T0_15 O0_15
def T0_8 : Tmpl := ⟨[(0, .c (.sl TEdit .bor)), (5, .c (.sl (.int .i64) (.app 0))), (6, .c (.int .i64))], [], [], 1, [0], 1, [(.sl TEdit), (.sl (.int .i64)), (.int .i64)]⟩
def O0_8 : Outs := [(.exit 0, ⟨[(5, .c (.sl (.int .i64) (.app 0)))], [], [], 1, [0], 1, [(.sl (.int .i64))]⟩)]
def L0_8 (N : Nat) (k : Nat) (x : (List (Edit)) × (List (Int)) × Int) : Option ((List (Int))) := loopF (loopStep (E1 N) fuelW 0 8 (bodyAt t26 8) T0_8 O0_8) k x
theorem L0_8_succ (N : Nat) (k : Nat) (v1 : List (Edit)) (v2 : List (Int)) (v3 : Int) : L0_8 N (k + 1) (v1, v2, v3) =
  (bif (decide (v3 < (16 : Int)))
  then (Option.bind (L0_15 N N (v1, v2, v3, false, (0 : Int))) fun y12 =>
    (bif y12.2.2.2
    then (chk (room (y12.2.1.length + 1) 8)
      (L0_8 N k (y12.1, (y12.2.1 ++ [y12.2.2.1]), (wi64 (y12.2.2.1 + (1 : Int))))))
    else L0_8 N k (y12.1, y12.2.1, (wi64 (y12.2.2.1 + (1 : Int))))))
  else some v2) := by kernel_rfl
def E2 (N : Nat) : SEnv := (E1 N).addLoop N 0 8 T0_8 O0_8
theorem ok2 (N : Nat) : EnvOK tab (E2 N) := (ok1 N).addLoop N 0 8 T0_8 O0_8
end f26
def F26 (N : Nat) (x : List (Edit)) : Option ((List (Int)) × Int) := fnRun (f26.E2 N) fuelW 26 f26.args f26.ta f26.res f26.tr 0 x
open f26 in
theorem F26_eq (N : Nat) (p0 : List (Edit)) : F26 N p0 =
  (Option.bind (F53 N p0) fun y0 =>
  (bif (y0 != (0 : Int))
  then some ([], y0)
  else (Option.bind (L0_8 N N (p0, [], (0 : Int))) fun y13 =>
    some (y13, (0 : Int))))) := by kernel_rfl
def c26 (N : Nat) : Sym.Callee := ⟨f26.args, f26.ta, f26.res, f26.tr, 0, F26 N⟩
theorem ok26 (N : Nat) : CalOK tab 26 (c26 N) := fn_ok (f26.ok2 N) fuelW 26 f26.args f26.ta f26.res f26.tr 0

/- wreckage/wreckageref40.Same -/
namespace f19
def cuts : Nat → Nat → Option Outs := fun _ _ => none
def ccut : Nat → Nat → Option Outs := fun _ _ => none
def ety : Nat → Nat → Option Ty := fun _ _ => none
def args : List PSh := [.agg [.int .u8, .int .i64, .int .i64, .sl TRoutineState .bor], .agg [.int .u8, .int .i64, .int .i64, .sl TRoutineState .bor]]
def ta : List Ty := [(.int .u8), (.int .i64), (.int .i64), (.sl TRoutineState), (.int .u8), (.int .i64), (.int .i64), (.sl TRoutineState)]
def res : List (Bool × List CSh) := [(false, [.bool])]
def tr : List Ty := [.bool]
def E0 (N : Nat) : SEnv := (SEnv.base tab cuts ccut ety).addCal 23 (c23 N)
theorem ok0 (N : Nat) : EnvOK tab (E0 N) := (base_ok tab cuts ccut ety).addCal (ok23 N)
def T0_6 : Tmpl := ⟨[(2, .c (.ptr 0 2 0 0 0)), (3, .c (.ptr 0 3 1 0 0)), (5, .c (.int .i64))], [], [(0, 2, .box 0 [.int .u8, .int .i64, .int .i64, .sl TRoutineState .bor]), (0, 3, .box 1 [.int .u8, .int .i64, .int .i64, .sl TRoutineState .bor])], 1, [], 2, [(.int .i64), (.int .u8), (.int .i64), (.int .i64), (.sl TRoutineState), (.int .u8), (.int .i64), (.int .i64), (.sl TRoutineState)]⟩
def O0_6 : Outs := [(.ret, ⟨[(4, .c (.bool))], [], [], 1, [], 0, [.bool]⟩), (.exit 0, ⟨[], [], [], 1, [], 0, []⟩)]
def L0_6 (N : Nat) (k : Nat) (x : (Int) × (Int) × (Int) × (Int) × (List (RoutineState)) × (Int) × (Int) × (Int) × List (RoutineState)) : Option ((Bool) ⊕ (Unit)) := loopF (loopStep (E0 N) fuelW 0 6 (bodyAt t19 6) T0_6 O0_6) k x
theorem L0_6_succ (N : Nat) (k : Nat) (v0 : Int) (v1 : Int) (v2 : Int) (v3 : Int) (v4 : List (RoutineState)) (v5 : Int) (v6 : Int) (v7 : Int) (v8 : List (RoutineState)) : L0_6 N (k + 1) (v0, v1, v2, v3, v4, v5, v6, v7, v8) =
  (bif (decide (v0 < (v4.length : Int)))
  then (Option.bind (idx v4 v0) fun x9 =>
    (Option.bind (idx v8 v0) fun x10 =>
    (Option.bind (F23 N (x9.1, x9.2.1, x9.2.2.1, x9.2.2.2.1, x9.2.2.2.2, x10.1, x10.2.1, x10.2.2.1, x10.2.2.2.1, x10.2.2.2.2)) fun y11 =>
    (bif (!y11)
    then some (Sum.inl false)
    else L0_6 N k ((wi64 (v0 + (1 : Int))), v1, v2, v3, v4, v5, v6, v7, v8)))))
  else some (Sum.inr ())) := by kernel_rfl
def E1 (N : Nat) : SEnv := (E0 N).addLoop N 0 6 T0_6 O0_6
theorem ok1 (N : Nat) : EnvOK tab (E1 N) := (ok0 N).addLoop N 0 6 T0_6 O0_6
end f19
def F19 (N : Nat) (x : (Int) × (Int) × (Int) × (List (RoutineState)) × (Int) × (Int) × (Int) × List (RoutineState)) : Option (Bool) := fnRun (f19.E1 N) fuelW 19 f19.args f19.ta f19.res f19.tr 0 x
open f19 in
theorem F19_eq (N : Nat) (p0 : Int) (p1 : Int) (p2 : Int) (p3 : List (RoutineState)) (p4 : Int) (p5 : Int) (p6 : Int) (p7 : List (RoutineState)) : F19 N (p0, p1, p2, p3, p4, p5, p6, p7) =
  (bif (p0 != p4)
  then some false
  else (bif (p1 != p5)
    then some false
    else (bif (p2 != p6)
      then some false
      else (bif ((p3.length : Int) != (p7.length : Int))
        then some false
        else (Option.bind (L0_6 N N ((0 : Int), p0, p1, p2, p3, p4, p5, p6, p7)) fun y12 =>
          (match y12 with
          | .inl a13 => some a13
          | .inr b14 => some true)))))) := by kernel_rfl
def c19 (N : Nat) : Sym.Callee := ⟨f19.args, f19.ta, f19.res, f19.tr, 0, F19 N⟩
theorem ok19 (N : Nat) : CalOK tab 19 (c19 N) := fn_ok (f19.ok1 N) fuelW 19 f19.args f19.ta f19.res f19.tr 0

/- wreckage/wreckagelaw43.DifferMakes -/
namespace f7
def cuts : Nat → Nat → Option Outs := fun _ _ => none
def ccut : Nat → Nat → Option Outs := fun _ _ => none
def ety : Nat → Nat → Option Ty := fun _ _ => none
def args : List PSh := [.agg [.int .u8, .int .i64, .int .i64, .sl TRoutineState .d], .agg [.int .u8, .int .i64, .int .i64, .int .u8, .int .i64, .int .i64, .int .u8, .int .i64, .sl TFrameState .d, .sl TDeferState .d, .sl TPanicState .d], .c (.sl TEdit .d)]
def ta : List Ty := [(.int .u8), (.int .i64), (.int .i64), (.sl TRoutineState), (.int .u8), (.int .i64), (.int .i64), (.int .u8), (.int .i64), (.int .i64), (.int .u8), (.int .i64), (.sl TFrameState), (.sl TDeferState), (.sl TPanicState), (.sl TEdit)]
def res : List (Bool × List CSh) := [(false, [.bool])]
def tr : List Ty := [.bool]
def E0 (N : Nat) : SEnv := ((((((((((SEnv.base tab cuts ccut ety).addCal 9 (c9 N)).addCal 24 (c24 N)).addCal 17 (c17 N)).addCal 18 (c18 N)).addCal 25 (c25 N)).addCal 22 (c22 N)).addCal 26 (c26 N)).addCal 21 (c21 N)).addCal 27 (c27 N)).addCal 19 (c19 N)
theorem ok0 (N : Nat) : EnvOK tab (E0 N) := ((((((((((base_ok tab cuts ccut ety).addCal (ok9 N)).addCal (ok24 N)).addCal (ok17 N)).addCal (ok18 N)).addCal (ok25 N)).addCal (ok22 N)).addCal (ok26 N)).addCal (ok21 N)).addCal (ok27 N)).addCal (ok19 N)
def T0_13 : Tmpl := ⟨[(11, .c (.sl (.int .i64) .d)), (13, .c (.sl (.int .i64) .d)), (15, .c (.int .i64))], [], [], 1, [], 0, [(.sl (.int .i64)), (.sl (.int .i64)), (.int .i64)]⟩
def O0_13 : Outs := [(.ret, ⟨[(6, .c (.bool))], [], [], 1, [], 0, [.bool]⟩), (.exit 0, ⟨[], [], [], 1, [], 0, []⟩)]
def L0_13 (N : Nat) (k : Nat) (x : (List (Int)) × (List (Int)) × Int) : Option ((Bool) ⊕ (Unit)) := loopF (loopStep (E0 N) fuelW 0 13 (bodyAt t7 13) T0_13 O0_13) k x
theorem L0_13_succ (N : Nat) (k : Nat) (v10 : List (Int)) (v11 : List (Int)) (v12 : Int) : L0_13 N (k + 1) (v10, v11, v12) =
  (bif (decide (v12 < (v10.length : Int)))
  then (Option.bind (idx v10 v12) fun x13 =>
    (Option.bind (idx v11 v12) fun x14 =>
    (bif (x13 != x14)
    then some (Sum.inl false)
    else L0_13 N k (v10, v11, (wi64 (v12 + (1 : Int)))))))
  else some (Sum.inr ())) := by kernel_rfl
def E1 (N : Nat) : SEnv := (E0 N).addLoop N 0 13 T0_13 O0_13
theorem ok1 (N : Nat) : EnvOK tab (E1 N) := (ok0 N).addLoop N 0 13 T0_13 O0_13
end f7
def F7 (N : Nat) (x : (Int) × (Int) × (Int) × (List (RoutineState)) × (Int) × (Int) × (Int) × (Int) × (Int) × (Int) × (Int) × (Int) × (List (FrameState)) × (List (DeferState)) × (List (PanicState)) × List (Edit)) : Option (Bool) := fnRun (f7.E1 N) fuelW 7 f7.args f7.ta f7.res f7.tr 0 x
open f7 in
theorem F7_eq (N : Nat) (p0 : Int) (p1 : Int) (p2 : Int) (p3 : List (RoutineState)) (p4 : Int) (p5 : Int) (p6 : Int) (p7 : Int) (p8 : Int) (p9 : Int) (p10 : Int) (p11 : Int) (p12 : List (FrameState)) (p13 : List (DeferState)) (p14 : List (PanicState)) (p15 : List (Edit)) : F7 N (p0, p1, p2, p3, p4, p5, p6, p7, p8, p9, p10, p11, p12, p13, p14, p15) =
  (Option.bind (F9 N (p0, p1, p2, p3)) fun y0 =>
  (bif y0
  then some true
  else (Option.bind (F24 N (p10, p11, p12, p13, p14)) fun y1 =>
    (bif y1
    then some true
    else (Option.bind (F17 N p15) fun y2 =>
      (bif y2
      then some true
      else (Option.bind (F18 N (p0, p1, p2, p3, p15)) fun y3 =>
        (Option.bind (F25 N (p0, p1, p2, p3, p15)) fun y4 =>
        (Option.bind (F22 N p15) fun y5 =>
        (Option.bind (F26 N p15) fun y6 =>
        (Option.bind (F21 N (p4, p5, p6, p7, p8, p9, p10, p11, p12, p13, p14)) fun y7 =>
        (Option.bind (F27 N (p4, p5, p6, p7, p8, p9, p10, p11, p12, p13, p14)) fun y8 =>
        (bif (y7 != y8)
        then some false
        else (Option.bind (F19 N (y3.1, y3.2.1, y3.2.2.1, y3.2.2.2.1, y4.1, y4.2.1, y4.2.2.1, y4.2.2.2.1)) fun y9 =>
          (bif (!y9)
          then some false
          else (bif (y3.2.2.2.2 != y4.2.2.2.2)
            then some false
            else (bif (y5.2 != y6.2)
              then some false
              else (bif ((y5.1.length : Int) != (y6.1.length : Int))
                then some false
                else (Option.bind (L0_13 N N (y5.1, y6.1, (0 : Int))) fun y15 =>
                  (match y15 with
                  | .inl a16 => some a16
                  | .inr b17 => some true)))))))))))))))))))) := by kernel_rfl
def c7 (N : Nat) : Sym.Callee := ⟨f7.args, f7.ta, f7.res, f7.tr, 0, F7 N⟩
theorem ok7 (N : Nat) : CalOK tab 7 (c7 N) := fn_ok (f7.ok1 N) fuelW 7 f7.args f7.ta f7.res f7.tr 0

end Go.Proofs.Ytdefleeofgekkaa
