/- What the functions compute. -/
import Derived.Test.YtkdjilgpknecfaaTab19b
namespace Go.Proofs.Ytkdjilgpknecfaa
open Go Go.Eng Go.Sym
@[reducible] def TboundsError : Ty := (.prod (.int .i64) (.prod (.int .i64) (.prod .bool (.int .u8))))
abbrev boundsError : Type := (Int) × ((Int) × ((Bool) × (Int)))
@[reducible] def TerrorAddressString : Ty := (.prod .str (.int .u64))
abbrev errorAddressString : Type := (List UInt8) × (Int)
@[reducible] def TRoutine : Ty := (.prod (.int .u8) (.prod (.int .u64) (.prod (.int .u64) (.prod (.int .u64) (.prod (.int .u64) (.int .i64))))))
abbrev Routine : Type := (Int) × ((Int) × ((Int) × ((Int) × ((Int) × (Int)))))
/- wreckage/routine.coded -/
namespace f25
def cuts : Nat → Nat → Option Outs := fun _ _ => none
def ccut : Nat → Nat → Option Outs := fun _ _ => none
def ety : Nat → Nat → Option Ty := fun _ _ => none
def E0 (N : Nat) : SEnv := SEnv.base tab cuts ccut ety
theorem ok0 (N : Nat) : EnvOK tab (E0 N) := base_ok tab cuts ccut ety
def args : List PSh := [.c (.int .u64)]
def ta : List Ty := [(.int .u64)]
def res : List (Bool × List CSh) := [(false, [.bool])]
def tr : List Ty := [.bool]
end f25
def F25 (N : Nat) (x : Int) : Option (Bool) := fnRun (f25.E0 N) fuelW 25 f25.args f25.ta f25.res f25.tr x
open f25 in
theorem F25_eq (N : Nat) (p0 : Int) : F25 N p0 =
  (bif (decide (p0 ≥ (256 : Int)))
  then some (decide (p0 < (8448 : Int)))
  else some false) := by kernel_rfl
def c25 (N : Nat) : Sym.Callee := ⟨f25.args, f25.ta, f25.res, f25.tr, F25 N⟩
theorem ok25 (N : Nat) : CalOK tab 25 (c25 N) := fn_ok (f25.ok0 N) fuelW 25 f25.args f25.ta f25.res f25.tr

/- wreckage/routine.base -/
namespace f26
def cuts : Nat → Nat → Option Outs := fun _ _ => none
def ccut : Nat → Nat → Option Outs := fun _ _ => none
def ety : Nat → Nat → Option Ty := fun _ _ => none
def E0 (N : Nat) : SEnv := SEnv.base tab cuts ccut ety
theorem ok0 (N : Nat) : EnvOK tab (E0 N) := base_ok tab cuts ccut ety
def args : List PSh := [.c (.int .i64)]
def ta : List Ty := [(.int .i64)]
def res : List (Bool × List CSh) := [(false, [.int .u64])]
def tr : List Ty := [(.int .u64)]
end f26
def F26 (N : Nat) (x : Int) : Option (Int) := fnRun (f26.E0 N) fuelW 26 f26.args f26.ta f26.res f26.tr x
open f26 in
theorem F26_eq (N : Nat) (p0 : Int) : F26 N p0 =
  some (wu64 ((16777216 : Int) * (wu64 (wi64 (p0 + (1 : Int)))))) := by kernel_rfl
def c26 (N : Nat) : Sym.Callee := ⟨f26.args, f26.ta, f26.res, f26.tr, F26 N⟩
theorem ok26 (N : Nat) : CalOK tab 26 (c26 N) := fn_ok (f26.ok0 N) fuelW 26 f26.args f26.ta f26.res f26.tr

/- wreckage/routine.New -/
namespace f9
def cuts : Nat → Nat → Option Outs := fun _ _ => none
def ccut : Nat → Nat → Option Outs := fun _ _ => none
def ety : Nat → Nat → Option Ty := fun _ _ => none
def E0 (N : Nat) : SEnv := ((SEnv.base tab cuts ccut ety).addCal 25 (c25 N)).addCal 26 (c26 N)
theorem ok0 (N : Nat) : EnvOK tab (E0 N) := ((base_ok tab cuts ccut ety).addCal (ok25 N)).addCal (ok26 N)
def args : List PSh := [.c (.int .i64), .c (.int .u64), .c (.int .i64)]
def ta : List Ty := [(.int .i64), (.int .u64), (.int .i64)]
def res : List (Bool × List CSh) := [(true, [.int .u8, .int .u64, .int .u64, .int .u64, .int .u64, .int .i64]), (false, [.int .i64])]
def tr : List Ty := [(.int .u8), (.int .u64), (.int .u64), (.int .u64), (.int .u64), (.int .i64), (.int .i64)]
end f9
def F9 (N : Nat) (x : (Int) × (Int) × Int) : Option ((Int) × (Int) × (Int) × (Int) × (Int) × (Int) × Int) := fnRun (f9.E0 N) fuelW 9 f9.args f9.ta f9.res f9.tr x
open f9 in
theorem F9_eq (N : Nat) (p0 : Int) (p1 : Int) (p2 : Int) : F9 N (p0, p1, p2) =
  (bif (decide (p0 < (0 : Int)))
  then some ((0 : Int), (0 : Int), (0 : Int), (0 : Int), (0 : Int), (0 : Int), (2 : Int))
  else (bif (decide (p0 ≥ (16 : Int)))
    then some ((0 : Int), (0 : Int), (0 : Int), (0 : Int), (0 : Int), (0 : Int), (2 : Int))
    else (Option.bind (F25 N p1) fun y0 =>
      (bif (!y0)
      then some ((0 : Int), (0 : Int), (0 : Int), (0 : Int), (0 : Int), (0 : Int), (2 : Int))
      else (bif ((Int.tmod p2 (8 : Int)) != (0 : Int))
        then some ((0 : Int), (0 : Int), (0 : Int), (0 : Int), (0 : Int), (0 : Int), (2 : Int))
        else (bif (decide (p2 < (24 : Int)))
          then some ((0 : Int), (0 : Int), (0 : Int), (0 : Int), (0 : Int), (0 : Int), (2 : Int))
          else (bif (decide (p2 > (4096 : Int)))
            then some ((0 : Int), (0 : Int), (0 : Int), (0 : Int), (0 : Int), (0 : Int), (2 : Int))
            else (Option.bind (F26 N p0) fun y1 =>
              some ((1 : Int), p1, (wu64 (y1 + (wu64 p2))), (0 : Int), (0 : Int), (0 : Int), (0 : Int)))))))))) := by kernel_rfl
def c9 (N : Nat) : Sym.Callee := ⟨f9.args, f9.ta, f9.res, f9.tr, F9 N⟩
theorem ok9 (N : Nat) : CalOK tab 9 (c9 N) := fn_ok (f9.ok0 N) fuelW 9 f9.args f9.ta f9.res f9.tr

/- wreckage/wreckageref19.Code -/
namespace f27
def cuts : Nat → Nat → Option Outs := fun _ _ => none
def ccut : Nat → Nat → Option Outs := fun _ _ => none
def ety : Nat → Nat → Option Ty := fun _ _ => none
def E0 (N : Nat) : SEnv := SEnv.base tab cuts ccut ety
theorem ok0 (N : Nat) : EnvOK tab (E0 N) := base_ok tab cuts ccut ety
def args : List PSh := [.c (.int .u64)]
def ta : List Ty := [(.int .u64)]
def res : List (Bool × List CSh) := [(false, [.bool])]
def tr : List Ty := [.bool]
end f27
def F27 (N : Nat) (x : Int) : Option (Bool) := fnRun (f27.E0 N) fuelW 27 f27.args f27.ta f27.res f27.tr x
open f27 in
theorem F27_eq (N : Nat) (p0 : Int) : F27 N p0 =
  (bif (decide ((wu64 (Int.tdiv p0 (256 : Int))) ≥ (1 : Int)))
  then some (decide ((wu64 (Int.tdiv p0 (256 : Int))) ≤ (32 : Int)))
  else some false) := by kernel_rfl
def c27 (N : Nat) : Sym.Callee := ⟨f27.args, f27.ta, f27.res, f27.tr, F27 N⟩
theorem ok27 (N : Nat) : CalOK tab 27 (c27 N) := fn_ok (f27.ok0 N) fuelW 27 f27.args f27.ta f27.res f27.tr

/- wreckage/wreckageref19.Base -/
namespace f28
def cuts : Nat → Nat → Option Outs := fun _ _ => none
def ccut : Nat → Nat → Option Outs := fun _ _ => none
def ety : Nat → Nat → Option Ty := fun _ _ => none
def E0 (N : Nat) : SEnv := SEnv.base tab cuts ccut ety
theorem ok0 (N : Nat) : EnvOK tab (E0 N) := base_ok tab cuts ccut ety
def args : List PSh := [.c (.int .i64)]
def ta : List Ty := [(.int .i64)]
def res : List (Bool × List CSh) := [(false, [.int .u64])]
def tr : List Ty := [(.int .u64)]
end f28
def F28 (N : Nat) (x : Int) : Option (Int) := fnRun (f28.E0 N) fuelW 28 f28.args f28.ta f28.res f28.tr x
open f28 in
theorem F28_eq (N : Nat) (p0 : Int) : F28 N p0 =
  some (wu64 (wi64 ((16777216 : Int) * (wi64 (p0 + (1 : Int)))))) := by kernel_rfl
def c28 (N : Nat) : Sym.Callee := ⟨f28.args, f28.ta, f28.res, f28.tr, F28 N⟩
theorem ok28 (N : Nat) : CalOK tab 28 (c28 N) := fn_ok (f28.ok0 N) fuelW 28 f28.args f28.ta f28.res f28.tr

/- wreckage/wreckageref19.New -/
namespace f10
def cuts : Nat → Nat → Option Outs := fun _ _ => none
def ccut : Nat → Nat → Option Outs := fun _ _ => none
def ety : Nat → Nat → Option Ty := fun _ _ => none
def E0 (N : Nat) : SEnv := ((SEnv.base tab cuts ccut ety).addCal 27 (c27 N)).addCal 28 (c28 N)
theorem ok0 (N : Nat) : EnvOK tab (E0 N) := ((base_ok tab cuts ccut ety).addCal (ok27 N)).addCal (ok28 N)
def args : List PSh := [.c (.int .i64), .c (.int .u64), .c (.int .i64)]
def ta : List Ty := [(.int .i64), (.int .u64), (.int .i64)]
def res : List (Bool × List CSh) := [(true, [.int .u8, .int .u64, .int .u64, .int .u64, .int .u64, .int .i64]), (false, [.int .i64])]
def tr : List Ty := [(.int .u8), (.int .u64), (.int .u64), (.int .u64), (.int .u64), (.int .i64), (.int .i64)]
end f10
def F10 (N : Nat) (x : (Int) × (Int) × Int) : Option ((Int) × (Int) × (Int) × (Int) × (Int) × (Int) × Int) := fnRun (f10.E0 N) fuelW 10 f10.args f10.ta f10.res f10.tr x
open f10 in
theorem F10_eq (N : Nat) (p0 : Int) (p1 : Int) (p2 : Int) : F10 N (p0, p1, p2) =
  (bif (decide (p0 < (0 : Int)))
  then some ((0 : Int), (0 : Int), (0 : Int), (0 : Int), (0 : Int), (0 : Int), (2 : Int))
  else (bif (decide (p0 ≥ (16 : Int)))
    then some ((0 : Int), (0 : Int), (0 : Int), (0 : Int), (0 : Int), (0 : Int), (2 : Int))
    else (Option.bind (F27 N p1) fun y0 =>
      (bif (!y0)
      then some ((0 : Int), (0 : Int), (0 : Int), (0 : Int), (0 : Int), (0 : Int), (2 : Int))
      else (bif (decide (p2 < (24 : Int)))
        then some ((0 : Int), (0 : Int), (0 : Int), (0 : Int), (0 : Int), (0 : Int), (2 : Int))
        else (bif (decide (p2 > (4096 : Int)))
          then some ((0 : Int), (0 : Int), (0 : Int), (0 : Int), (0 : Int), (0 : Int), (2 : Int))
          else (bif ((Int.tmod p2 (8 : Int)) != (0 : Int))
            then some ((0 : Int), (0 : Int), (0 : Int), (0 : Int), (0 : Int), (0 : Int), (2 : Int))
            else (Option.bind (F28 N p0) fun y1 =>
              some ((1 : Int), p1, (wu64 (y1 + (wu64 p2))), (0 : Int), (0 : Int), (0 : Int), (0 : Int)))))))))) := by kernel_rfl
def c10 (N : Nat) : Sym.Callee := ⟨f10.args, f10.ta, f10.res, f10.tr, F10 N⟩
theorem ok10 (N : Nat) : CalOK tab 10 (c10 N) := fn_ok (f10.ok0 N) fuelW 10 f10.args f10.ta f10.res f10.tr

/- wreckage/routine.high -/
namespace f39
def cuts : Nat → Nat → Option Outs := fun _ _ => none
def ccut : Nat → Nat → Option Outs := fun _ _ => none
def ety : Nat → Nat → Option Ty := fun _ _ => none
def E0 (N : Nat) : SEnv := SEnv.base tab cuts ccut ety
theorem ok0 (N : Nat) : EnvOK tab (E0 N) := base_ok tab cuts ccut ety
def args : List PSh := [.c (.int .u64)]
def ta : List Ty := [(.int .u64)]
def res : List (Bool × List CSh) := [(false, [.bool])]
def tr : List Ty := [.bool]
end f39
def F39 (N : Nat) (x : Int) : Option (Bool) := fnRun (f39.E0 N) fuelW 39 f39.args f39.ta f39.res f39.tr x
open f39 in
theorem F39_eq (N : Nat) (p0 : Int) : F39 N p0 =
  (bif (p0 == (0 : Int))
  then some true
  else (bif ((Int.tmod p0 (8 : Int)) == (0 : Int))
    then some (decide (p0 ≥ (65536 : Int)))
    else some false)) := by kernel_rfl
def c39 (N : Nat) : Sym.Callee := ⟨f39.args, f39.ta, f39.res, f39.tr, F39 N⟩
theorem ok39 (N : Nat) : CalOK tab 39 (c39 N) := fn_ok (f39.ok0 N) fuelW 39 f39.args f39.ta f39.res f39.tr

/- wreckage/routine.valid -/
namespace f30
def cuts : Nat → Nat → Option Outs := fun _ _ => none
def ccut : Nat → Nat → Option Outs := fun _ _ => none
def ety : Nat → Nat → Option Ty := fun _ _ => none
def E0 (N : Nat) : SEnv := (((SEnv.base tab cuts ccut ety).addCal 26 (c26 N)).addCal 25 (c25 N)).addCal 39 (c39 N)
theorem ok0 (N : Nat) : EnvOK tab (E0 N) := (((base_ok tab cuts ccut ety).addCal (ok26 N)).addCal (ok25 N)).addCal (ok39 N)
def args : List PSh := [.c (.int .i64), .agg [.int .u8, .int .u64, .int .u64, .int .u64, .int .u64, .int .i64]]
def ta : List Ty := [(.int .i64), (.int .u8), (.int .u64), (.int .u64), (.int .u64), (.int .u64), (.int .i64)]
def res : List (Bool × List CSh) := [(false, [.bool])]
def tr : List Ty := [.bool]
end f30
def F30 (N : Nat) (x : (Int) × (Int) × (Int) × (Int) × (Int) × (Int) × Int) : Option (Bool) := fnRun (f30.E0 N) fuelW 30 f30.args f30.ta f30.res f30.tr x
open f30 in
theorem F30_eq (N : Nat) (p0 : Int) (p1 : Int) (p2 : Int) (p3 : Int) (p4 : Int) (p5 : Int) (p6 : Int) : F30 N (p0, p1, p2, p3, p4, p5, p6) =
  (bif (p1 == (3 : Int))
  then (Option.bind (F26 N p0) fun y0 =>
    some (p1 == (3 : Int) && (p2 == (0 : Int) && (p3 == y0 && (p4 == (0 : Int) && (p5 == (0 : Int) && (p6 == (0 : Int) && true)))))))
  else (Option.bind (F26 N p0) fun y1 =>
    (Option.bind (F26 N p0) fun y2 =>
    (bif (decide (p3 < y2))
    then some false
    else (bif (decide ((wu64 (p3 - y1)) < (24 : Int)))
      then some false
      else (bif (decide ((wu64 (p3 - y1)) > (4096 : Int)))
        then some false
        else (bif ((Int.tmod (wu64 (p3 - y1)) (8 : Int)) != (0 : Int))
          then some false
          else (bif (p1 == (2 : Int))
            then (Option.bind (F25 N p2) fun y3 =>
              (bif y3
              then (Option.bind (F39 N p4) fun y4 =>
                (bif y4
                then (Option.bind (F39 N p5) fun y5 =>
                  some y5)
                else some false))
              else some false))
            else (bif (p1 == (1 : Int))
              then (bif (p6 == (0 : Int))
                then (Option.bind (F25 N p2) fun y6 =>
                  (bif y6
                  then (Option.bind (F39 N p4) fun y7 =>
                    (bif y7
                    then (Option.bind (F39 N p5) fun y8 =>
                      some y8)
                    else some false))
                  else some false))
                else some false)
              else some false))))))))) := by kernel_rfl
def c30 (N : Nat) : Sym.Callee := ⟨f30.args, f30.ta, f30.res, f30.tr, F30 N⟩
theorem ok30 (N : Nat) : CalOK tab 30 (c30 N) := fn_ok (f30.ok0 N) fuelW 30 f30.args f30.ta f30.res f30.tr

/- wreckage/routine.Check -/
namespace f13
def cuts : Nat → Nat → Option Outs := fun _ _ => none
def ccut : Nat → Nat → Option Outs := fun _ _ => none
def ety : Nat → Nat → Option Ty := fun _ _ => none
def E0 (N : Nat) : SEnv := (SEnv.base tab cuts ccut ety).addCal 30 (c30 N)
theorem ok0 (N : Nat) : EnvOK tab (E0 N) := (base_ok tab cuts ccut ety).addCal (ok30 N)
def T0_6 : Tmpl := ⟨[(13, .c (.sl TRoutine .bor)), (14, .c (.int .i64)), (15, .c (.int .i64))], [], [], 1, [], 0, [(.sl TRoutine), (.int .i64), (.int .i64)]⟩
def O0_6 : Outs := [(.ret, ⟨[(2, .c (.int .i64))], [], [], 1, [], 0, [(.int .i64)]⟩), (.exit 0, ⟨[], [], [], 1, [], 0, []⟩)]
def L0_6 (N k : Nat) (x : (List (Routine)) × (Int) × Int) : Option ((Int) ⊕ (Unit)) := loopF (loopStep (E0 N) fuelW 0 6 (bodyAt t13 6) T0_6 O0_6) k x
theorem L0_6_succ (N k : Nat) (v0 : List (Routine)) (v1 : Int) (v2 : Int) : L0_6 N (k + 1) (v0, v1, v2) =
  (bif (decide (v2 < v1))
  then (Option.bind (idx v0 v2) fun x3 =>
    (Option.bind (F30 N (v2, x3.1, x3.2.1, x3.2.2.1, x3.2.2.2.1, x3.2.2.2.2.1, x3.2.2.2.2.2)) fun y4 =>
    (bif (!y4)
    then some (.inl (8 : Int))
    else L0_6 N k (v0, v1, (wi64 (v2 + (1 : Int)))))))
  else some (.inr ())) := by kernel_rfl
def E1 (N : Nat) : SEnv := (E0 N).addLoop N 0 6 T0_6 O0_6
theorem ok1 (N : Nat) : EnvOK tab (E1 N) := (ok0 N).addLoop N 0 6 T0_6 O0_6
def args : List PSh := [.c (.sl TRoutine .bor)]
def ta : List Ty := [(.sl TRoutine)]
def res : List (Bool × List CSh) := [(false, [.int .i64])]
def tr : List Ty := [(.int .i64)]
end f13
def F13 (N : Nat) (x : List (Routine)) : Option (Int) := fnRun (f13.E1 N) fuelW 13 f13.args f13.ta f13.res f13.tr x
open f13 in
theorem F13_eq (N : Nat) (p0 : List (Routine)) : F13 N p0 =
  (bif (decide ((p0.length : Int) < (1 : Int)))
  then some (8 : Int)
  else (bif (decide ((p0.length : Int) > (16 : Int)))
    then some (8 : Int)
    else (Option.bind (L0_6 N N (p0, (p0.length : Int), (0 : Int))) fun y5 =>
      (match y5 with
      | .inl a6 => some a6
      | .inr b7 => some (0 : Int))))) := by kernel_rfl
def c13 (N : Nat) : Sym.Callee := ⟨f13.args, f13.ta, f13.res, f13.tr, F13 N⟩
theorem ok13 (N : Nat) : CalOK tab 13 (c13 N) := fn_ok (f13.ok1 N) fuelW 13 f13.args f13.ta f13.res f13.tr

/- wreckage/routine.Ready -/
namespace f11
def cuts : Nat → Nat → Option Outs := fun _ _ => none
def ccut : Nat → Nat → Option Outs := fun _ _ => none
def ety : Nat → Nat → Option Ty := fun c d => match c, d with
  | 0, 25 => some (.int .i64)
  | _, _ => none
def E0 (N : Nat) : SEnv := (SEnv.base tab cuts ccut ety).addCal 13 (c13 N)
theorem ok0 (N : Nat) : EnvOK tab (E0 N) := (base_ok tab cuts ccut ety).addCal (ok13 N)
def T0_8 : Tmpl := ⟨[(5, .c (.sl (.int .i64) (.app 0))), (13, .c (.sl TRoutine .bor)), (14, .c (.int .i64)), (15, .c (.int .i64))], [], [], 1, [0], 1, [(.sl (.int .i64)), (.sl TRoutine), (.int .i64), (.int .i64)]⟩
def O0_8 : Outs := [(.exit 0, ⟨[(5, .c (.sl (.int .i64) (.app 0)))], [], [], 1, [0], 1, [(.sl (.int .i64))]⟩)]
def L0_8 (N k : Nat) (x : (List (Int)) × (List (Routine)) × (Int) × Int) : Option ((List (Int))) := loopF (loopStep (E0 N) fuelW 0 8 (bodyAt t11 8) T0_8 O0_8) k x
theorem L0_8_succ (N k : Nat) (v1 : List (Int)) (v2 : List (Routine)) (v3 : Int) (v4 : Int) : L0_8 N (k + 1) (v1, v2, v3, v4) =
  (bif (decide (v4 < v3))
  then (Option.bind (idx v2 v4) fun x5 =>
    (bif (x5.1 == (1 : Int))
    then (chk (room (v1.length + 1) 8)
      (L0_8 N k ((v1 ++ [v4]), v2, v3, (wi64 (v4 + (1 : Int))))))
    else L0_8 N k (v1, v2, v3, (wi64 (v4 + (1 : Int))))))
  else some v1) := by kernel_rfl
def E1 (N : Nat) : SEnv := (E0 N).addLoop N 0 8 T0_8 O0_8
theorem ok1 (N : Nat) : EnvOK tab (E1 N) := (ok0 N).addLoop N 0 8 T0_8 O0_8
def args : List PSh := [.c (.sl TRoutine .bor)]
def ta : List Ty := [(.sl TRoutine)]
def res : List (Bool × List CSh) := [(false, [.sl (.int .i64) .d]), (false, [.int .i64])]
def tr : List Ty := [(.sl (.int .i64)), (.int .i64)]
end f11
def F11 (N : Nat) (x : List (Routine)) : Option ((List (Int)) × Int) := fnRun (f11.E1 N) fuelW 11 f11.args f11.ta f11.res f11.tr x
open f11 in
theorem F11_eq (N : Nat) (p0 : List (Routine)) : F11 N p0 =
  (Option.bind (F13 N p0) fun y0 =>
  (bif (y0 != (0 : Int))
  then some ([], y0)
  else (Option.bind (L0_8 N N ([], p0, (p0.length : Int), (0 : Int))) fun y6 =>
    some (y6, (0 : Int))))) := by kernel_rfl
def c11 (N : Nat) : Sym.Callee := ⟨f11.args, f11.ta, f11.res, f11.tr, F11 N⟩
theorem ok11 (N : Nat) : CalOK tab 11 (c11 N) := fn_ok (f11.ok1 N) fuelW 11 f11.args f11.ta f11.res f11.tr

/- wreckage/wreckageref19.record -/
namespace f40
def cuts : Nat → Nat → Option Outs := fun _ _ => none
def ccut : Nat → Nat → Option Outs := fun _ _ => none
def ety : Nat → Nat → Option Ty := fun _ _ => none
def E0 (N : Nat) : SEnv := SEnv.base tab cuts ccut ety
theorem ok0 (N : Nat) : EnvOK tab (E0 N) := base_ok tab cuts ccut ety
def args : List PSh := [.c (.int .u64)]
def ta : List Ty := [(.int .u64)]
def res : List (Bool × List CSh) := [(false, [.bool])]
def tr : List Ty := [.bool]
end f40
def F40 (N : Nat) (x : Int) : Option (Bool) := fnRun (f40.E0 N) fuelW 40 f40.args f40.ta f40.res f40.tr x
open f40 in
theorem F40_eq (N : Nat) (p0 : Int) : F40 N p0 =
  (bif (p0 == (0 : Int))
  then some true
  else (bif (decide (p0 ≥ (65536 : Int)))
    then some ((Int.tmod p0 (8 : Int)) == (0 : Int))
    else some false)) := by kernel_rfl
def c40 (N : Nat) : Sym.Callee := ⟨f40.args, f40.ta, f40.res, f40.tr, F40 N⟩
theorem ok40 (N : Nat) : CalOK tab 40 (c40 N) := fn_ok (f40.ok0 N) fuelW 40 f40.args f40.ta f40.res f40.tr

/- wreckage/wreckageref19.Valid -/
namespace f31
def cuts : Nat → Nat → Option Outs := fun _ _ => none
def ccut : Nat → Nat → Option Outs := fun _ _ => none
def ety : Nat → Nat → Option Ty := fun _ _ => none
def E0 (N : Nat) : SEnv := (((SEnv.base tab cuts ccut ety).addCal 27 (c27 N)).addCal 28 (c28 N)).addCal 40 (c40 N)
theorem ok0 (N : Nat) : EnvOK tab (E0 N) := (((base_ok tab cuts ccut ety).addCal (ok27 N)).addCal (ok28 N)).addCal (ok40 N)
def args : List PSh := [.c (.int .i64), .agg [.int .u8, .int .u64, .int .u64, .int .u64, .int .u64, .int .i64]]
def ta : List Ty := [(.int .i64), (.int .u8), (.int .u64), (.int .u64), (.int .u64), (.int .u64), (.int .i64)]
def res : List (Bool × List CSh) := [(false, [.bool])]
def tr : List Ty := [.bool]
end f31
def F31 (N : Nat) (x : (Int) × (Int) × (Int) × (Int) × (Int) × (Int) × Int) : Option (Bool) := fnRun (f31.E0 N) fuelW 31 f31.args f31.ta f31.res f31.tr x
open f31 in
theorem F31_eq (N : Nat) (p0 : Int) (p1 : Int) (p2 : Int) (p3 : Int) (p4 : Int) (p5 : Int) (p6 : Int) : F31 N (p0, p1, p2, p3, p4, p5, p6) =
  (bif (p1 == (1 : Int))
  then (bif (p6 != (0 : Int))
    then some false
    else (Option.bind (F27 N p2) fun y0 =>
      (bif y0
      then (Option.bind (F28 N p0) fun y1 =>
        (bif (decide (p3 ≥ (wu64 (y1 + (24 : Int)))))
        then (Option.bind (F28 N p0) fun y2 =>
          (bif (decide (p3 ≤ (wu64 (y2 + (4096 : Int)))))
          then (bif ((Int.tmod p3 (8 : Int)) == (0 : Int))
            then (Option.bind (F40 N p4) fun y3 =>
              (bif y3
              then (Option.bind (F40 N p5) fun y4 =>
                some y4)
              else some false))
            else some false)
          else some false))
        else some false))
      else some false)))
  else (bif (p1 == (2 : Int))
    then (Option.bind (F27 N p2) fun y5 =>
      (bif y5
      then (Option.bind (F28 N p0) fun y6 =>
        (bif (decide (p3 ≥ (wu64 (y6 + (24 : Int)))))
        then (Option.bind (F28 N p0) fun y7 =>
          (bif (decide (p3 ≤ (wu64 (y7 + (4096 : Int)))))
          then (bif ((Int.tmod p3 (8 : Int)) == (0 : Int))
            then (Option.bind (F40 N p4) fun y8 =>
              (bif y8
              then (Option.bind (F40 N p5) fun y9 =>
                some y9)
              else some false))
            else some false)
          else some false))
        else some false))
      else some false))
    else (bif (p1 == (3 : Int))
      then (bif (p2 == (0 : Int))
        then (Option.bind (F28 N p0) fun y10 =>
          (bif (p3 == y10)
          then (bif (p4 == (0 : Int))
            then (bif (p5 == (0 : Int))
              then some (p6 == (0 : Int))
              else some false)
            else some false)
          else some false))
        else some false)
      else some false))) := by kernel_rfl
def c31 (N : Nat) : Sym.Callee := ⟨f31.args, f31.ta, f31.res, f31.tr, F31 N⟩
theorem ok31 (N : Nat) : CalOK tab 31 (c31 N) := fn_ok (f31.ok0 N) fuelW 31 f31.args f31.ta f31.res f31.tr

/- wreckage/wreckageref19.Check -/
namespace f14
def cuts : Nat → Nat → Option Outs := fun _ _ => none
def ccut : Nat → Nat → Option Outs := fun _ _ => none
def ety : Nat → Nat → Option Ty := fun _ _ => none
def E0 (N : Nat) : SEnv := (SEnv.base tab cuts ccut ety).addCal 31 (c31 N)
theorem ok0 (N : Nat) : EnvOK tab (E0 N) := (base_ok tab cuts ccut ety).addCal (ok31 N)
def T0_6 : Tmpl := ⟨[(0, .c (.sl TRoutine .bor)), (3, .c (.int .i64))], [], [], 1, [], 0, [(.sl TRoutine), (.int .i64)]⟩
def O0_6 : Outs := [(.ret, ⟨[(2, .c (.int .i64))], [], [], 1, [], 0, [(.int .i64)]⟩), (.exit 0, ⟨[], [], [], 1, [], 0, []⟩)]
def L0_6 (N k : Nat) (x : (List (Routine)) × Int) : Option ((Int) ⊕ (Unit)) := loopF (loopStep (E0 N) fuelW 0 6 (bodyAt t14 6) T0_6 O0_6) k x
theorem L0_6_succ (N k : Nat) (v0 : List (Routine)) (v1 : Int) : L0_6 N (k + 1) (v0, v1) =
  (bif (decide (v1 < (v0.length : Int)))
  then (Option.bind (idx v0 v1) fun x2 =>
    (Option.bind (F31 N (v1, x2.1, x2.2.1, x2.2.2.1, x2.2.2.2.1, x2.2.2.2.2.1, x2.2.2.2.2.2)) fun y3 =>
    (bif (!y3)
    then some (.inl (8 : Int))
    else L0_6 N k (v0, (wi64 (v1 + (1 : Int)))))))
  else some (.inr ())) := by kernel_rfl
def E1 (N : Nat) : SEnv := (E0 N).addLoop N 0 6 T0_6 O0_6
theorem ok1 (N : Nat) : EnvOK tab (E1 N) := (ok0 N).addLoop N 0 6 T0_6 O0_6
def args : List PSh := [.c (.sl TRoutine .bor)]
def ta : List Ty := [(.sl TRoutine)]
def res : List (Bool × List CSh) := [(false, [.int .i64])]
def tr : List Ty := [(.int .i64)]
end f14
def F14 (N : Nat) (x : List (Routine)) : Option (Int) := fnRun (f14.E1 N) fuelW 14 f14.args f14.ta f14.res f14.tr x
open f14 in
theorem F14_eq (N : Nat) (p0 : List (Routine)) : F14 N p0 =
  (bif ((p0.length : Int) == (0 : Int))
  then some (8 : Int)
  else (bif (decide ((p0.length : Int) > (16 : Int)))
    then some (8 : Int)
    else (Option.bind (L0_6 N N (p0, (0 : Int))) fun y4 =>
      (match y4 with
      | .inl a5 => some a5
      | .inr b6 => some (0 : Int))))) := by kernel_rfl
def c14 (N : Nat) : Sym.Callee := ⟨f14.args, f14.ta, f14.res, f14.tr, F14 N⟩
theorem ok14 (N : Nat) : CalOK tab 14 (c14 N) := fn_ok (f14.ok1 N) fuelW 14 f14.args f14.ta f14.res f14.tr

/- wreckage/wreckageref19.Waiting -/
namespace f29
def cuts : Nat → Nat → Option Outs := fun _ _ => none
def ccut : Nat → Nat → Option Outs := fun _ _ => none
def ety : Nat → Nat → Option Ty := fun c d => match c, d with
  | 0, 19 => some (.int .i64)
  | _, _ => none
def E0 (N : Nat) : SEnv := SEnv.base tab cuts ccut ety
theorem ok0 (N : Nat) : EnvOK tab (E0 N) := base_ok tab cuts ccut ety
def T0_4 : Tmpl := ⟨[(0, .c (.sl TRoutine .bor)), (3, .c (.sl (.int .i64) (.app 0))), (4, .c (.int .i64))], [], [], 1, [0], 1, [(.sl TRoutine), (.sl (.int .i64)), (.int .i64)]⟩
def O0_4 : Outs := [(.exit 0, ⟨[(3, .c (.sl (.int .i64) (.app 0)))], [], [], 1, [0], 1, [(.sl (.int .i64))]⟩)]
def L0_4 (N k : Nat) (x : (List (Routine)) × (List (Int)) × Int) : Option ((List (Int))) := loopF (loopStep (E0 N) fuelW 0 4 (bodyAt t29 4) T0_4 O0_4) k x
theorem L0_4_succ (N k : Nat) (v0 : List (Routine)) (v1 : List (Int)) (v2 : Int) : L0_4 N (k + 1) (v0, v1, v2) =
  (bif (decide (v2 < (v0.length : Int)))
  then (Option.bind (idx v0 v2) fun x3 =>
    (bif (x3.1 == (1 : Int))
    then (chk (room (v1.length + 1) 8)
      (L0_4 N k (v0, (v1 ++ [v2]), (wi64 (v2 + (1 : Int))))))
    else L0_4 N k (v0, v1, (wi64 (v2 + (1 : Int))))))
  else some v1) := by kernel_rfl
def E1 (N : Nat) : SEnv := (E0 N).addLoop N 0 4 T0_4 O0_4
theorem ok1 (N : Nat) : EnvOK tab (E1 N) := (ok0 N).addLoop N 0 4 T0_4 O0_4
def args : List PSh := [.c (.sl TRoutine .bor)]
def ta : List Ty := [(.sl TRoutine)]
def res : List (Bool × List CSh) := [(false, [.sl (.int .i64) .d])]
def tr : List Ty := [(.sl (.int .i64))]
end f29
def F29 (N : Nat) (x : List (Routine)) : Option (List (Int)) := fnRun (f29.E1 N) fuelW 29 f29.args f29.ta f29.res f29.tr x
open f29 in
theorem F29_eq (N : Nat) (p0 : List (Routine)) : F29 N p0 =
  (Option.bind (L0_4 N N (p0, [], (0 : Int))) fun y4 =>
  some y4) := by kernel_rfl
def c29 (N : Nat) : Sym.Callee := ⟨f29.args, f29.ta, f29.res, f29.tr, F29 N⟩
theorem ok29 (N : Nat) : CalOK tab 29 (c29 N) := fn_ok (f29.ok1 N) fuelW 29 f29.args f29.ta f29.res f29.tr

/- wreckage/wreckageref19.Ready -/
namespace f12
def cuts : Nat → Nat → Option Outs := fun _ _ => none
def ccut : Nat → Nat → Option Outs := fun _ _ => none
def ety : Nat → Nat → Option Ty := fun _ _ => none
def E0 (N : Nat) : SEnv := ((SEnv.base tab cuts ccut ety).addCal 14 (c14 N)).addCal 29 (c29 N)
theorem ok0 (N : Nat) : EnvOK tab (E0 N) := ((base_ok tab cuts ccut ety).addCal (ok14 N)).addCal (ok29 N)
def args : List PSh := [.c (.sl TRoutine .bor)]
def ta : List Ty := [(.sl TRoutine)]
def res : List (Bool × List CSh) := [(false, [.sl (.int .i64) .d]), (false, [.int .i64])]
def tr : List Ty := [(.sl (.int .i64)), (.int .i64)]
end f12
def F12 (N : Nat) (x : List (Routine)) : Option ((List (Int)) × Int) := fnRun (f12.E0 N) fuelW 12 f12.args f12.ta f12.res f12.tr x
open f12 in
theorem F12_eq (N : Nat) (p0 : List (Routine)) : F12 N p0 =
  (Option.bind (F14 N p0) fun y0 =>
  (bif (y0 != (0 : Int))
  then (Option.bind (F14 N p0) fun y1 =>
    some ([], y1))
  else (Option.bind (F29 N p0) fun y2 =>
    some (y2, (0 : Int))))) := by kernel_rfl
def c12 (N : Nat) : Sym.Callee := ⟨f12.args, f12.ta, f12.res, f12.tr, F12 N⟩
theorem ok12 (N : Nat) : CalOK tab 12 (c12 N) := fn_ok (f12.ok0 N) fuelW 12 f12.args f12.ta f12.res f12.tr

/- wreckage/wreckageref19.SameNumbers -/
namespace f15
def cuts : Nat → Nat → Option Outs := fun _ _ => none
def ccut : Nat → Nat → Option Outs := fun _ _ => none
def ety : Nat → Nat → Option Ty := fun _ _ => none
def E0 (N : Nat) : SEnv := SEnv.base tab cuts ccut ety
theorem ok0 (N : Nat) : EnvOK tab (E0 N) := base_ok tab cuts ccut ety
def T0_6 : Tmpl := ⟨[(0, .c (.sl (.int .i64) .bor)), (1, .c (.sl (.int .i64) .bor)), (5, .c (.int .i64))], [], [], 1, [], 0, [(.sl (.int .i64)), (.sl (.int .i64)), (.int .i64)]⟩
def O0_6 : Outs := [(.ret, ⟨[(4, .c (.bool))], [], [], 1, [], 0, [.bool]⟩), (.exit 0, ⟨[], [], [], 1, [], 0, []⟩)]
def L0_6 (N k : Nat) (x : (List (Int)) × (List (Int)) × Int) : Option ((Bool) ⊕ (Unit)) := loopF (loopStep (E0 N) fuelW 0 6 (bodyAt t15 6) T0_6 O0_6) k x
theorem L0_6_succ (N k : Nat) (v0 : List (Int)) (v1 : List (Int)) (v2 : Int) : L0_6 N (k + 1) (v0, v1, v2) =
  (bif (decide (v2 < (v0.length : Int)))
  then (Option.bind (idx v0 v2) fun x3 =>
    (Option.bind (idx v1 v2) fun x4 =>
    (bif (x3 != x4)
    then some (.inl false)
    else L0_6 N k (v0, v1, (wi64 (v2 + (1 : Int)))))))
  else some (.inr ())) := by kernel_rfl
def E1 (N : Nat) : SEnv := (E0 N).addLoop N 0 6 T0_6 O0_6
theorem ok1 (N : Nat) : EnvOK tab (E1 N) := (ok0 N).addLoop N 0 6 T0_6 O0_6
def args : List PSh := [.c (.sl (.int .i64) .bor), .c (.sl (.int .i64) .bor)]
def ta : List Ty := [(.sl (.int .i64)), (.sl (.int .i64))]
def res : List (Bool × List CSh) := [(false, [.bool])]
def tr : List Ty := [.bool]
end f15
def F15 (N : Nat) (x : (List (Int)) × List (Int)) : Option (Bool) := fnRun (f15.E1 N) fuelW 15 f15.args f15.ta f15.res f15.tr x
open f15 in
theorem F15_eq (N : Nat) (p0 : List (Int)) (p1 : List (Int)) : F15 N (p0, p1) =
  (bif ((p0.length : Int) != (p1.length : Int))
  then some false
  else (Option.bind (L0_6 N N (p0, p1, (0 : Int))) fun y5 =>
    (match y5 with
    | .inl a6 => some a6
    | .inr b7 => some true))) := by kernel_rfl
def c15 (N : Nat) : Sym.Callee := ⟨f15.args, f15.ta, f15.res, f15.tr, F15 N⟩
theorem ok15 (N : Nat) : CalOK tab 15 (c15 N) := fn_ok (f15.ok1 N) fuelW 15 f15.args f15.ta f15.res f15.tr

/- wreckage/wreckagelaw19.RoutineMakes -/
namespace f3
def cuts : Nat → Nat → Option Outs := fun _ _ => none
def ccut : Nat → Nat → Option Outs := fun _ _ => none
def ety : Nat → Nat → Option Ty := fun _ _ => none
def E0 (N : Nat) : SEnv := (((((((SEnv.base tab cuts ccut ety).addCal 9 (c9 N)).addCal 10 (c10 N)).addCal 11 (c11 N)).addCal 12 (c12 N)).addCal 13 (c13 N)).addCal 14 (c14 N)).addCal 15 (c15 N)
theorem ok0 (N : Nat) : EnvOK tab (E0 N) := (((((((base_ok tab cuts ccut ety).addCal (ok9 N)).addCal (ok10 N)).addCal (ok11 N)).addCal (ok12 N)).addCal (ok13 N)).addCal (ok14 N)).addCal (ok15 N)
def args : List PSh := [.c (.int .i64), .c (.int .u64), .c (.int .i64), .c (.sl TRoutine .d)]
def ta : List Ty := [(.int .i64), (.int .u64), (.int .i64), (.sl TRoutine)]
def res : List (Bool × List CSh) := [(false, [.bool])]
def tr : List Ty := [.bool]
end f3
def F3 (N : Nat) (x : (Int) × (Int) × (Int) × List (Routine)) : Option (Bool) := fnRun (f3.E0 N) fuelW 3 f3.args f3.ta f3.res f3.tr x
open f3 in
theorem F3_eq (N : Nat) (p0 : Int) (p1 : Int) (p2 : Int) (p3 : List (Routine)) : F3 N (p0, p1, p2, p3) =
  (bif (decide ((p3.length : Int) > (20 : Int)))
  then some true
  else (Option.bind (F9 N (p0, p1, p2)) fun y0 =>
    (Option.bind (F10 N (p0, p1, p2)) fun y1 =>
    (Option.bind (F11 N p3) fun y2 =>
    (Option.bind (F12 N p3) fun y3 =>
    (bif (y0.1 == y1.1 && (y0.2.1 == y1.2.1 && (y0.2.2.1 == y1.2.2.1 && (y0.2.2.2.1 == y1.2.2.2.1 && (y0.2.2.2.2.1 == y1.2.2.2.2.1 && (y0.2.2.2.2.2.1 == y1.2.2.2.2.2.1 && true))))))
    then (bif (y0.2.2.2.2.2.2 == y1.2.2.2.2.2.2)
      then (Option.bind (F13 N p3) fun y4 =>
        (Option.bind (F14 N p3) fun y5 =>
        (bif (y4 == y5)
        then (Option.bind (F15 N (y2.1, y3.1)) fun y6 =>
          (bif y6
          then some (y2.2 == y3.2)
          else some false))
        else some false)))
      else some false)
    else some false)))))) := by kernel_rfl
def c3 (N : Nat) : Sym.Callee := ⟨f3.args, f3.ta, f3.res, f3.tr, F3 N⟩
theorem ok3 (N : Nat) : CalOK tab 3 (c3 N) := fn_ok (f3.ok0 N) fuelW 3 f3.args f3.ta f3.res f3.tr

/- wreckage/wreckagelaw19.three -/
namespace f32
def cuts : Nat → Nat → Option Outs := fun _ _ => none
def ccut : Nat → Nat → Option Outs := fun _ _ => none
def ety : Nat → Nat → Option Ty := fun c d => match c, d with
  | 0, 20 => some TRoutine
  | _, _ => none
def E0 (N : Nat) : SEnv := (SEnv.base tab cuts ccut ety).addCal 10 (c10 N)
theorem ok0 (N : Nat) : EnvOK tab (E0 N) := (base_ok tab cuts ccut ety).addCal (ok10 N)
def T0_4 : Tmpl := ⟨[(1, .c (.sl TRoutine (.app 0))), (2, .c (.int .i64))], [], [], 1, [0], 1, [(.sl TRoutine), (.int .i64)]⟩
def O0_4 : Outs := [(.exit 0, ⟨[(1, .c (.sl TRoutine (.app 0)))], [], [], 1, [0], 1, [(.sl TRoutine)]⟩)]
def L0_4 (N k : Nat) (x : (List (Routine)) × Int) : Option ((List (Routine))) := loopF (loopStep (E0 N) fuelW 0 4 (bodyAt t32 4) T0_4 O0_4) k x
theorem L0_4_succ (N k : Nat) (v0 : List (Routine)) (v1 : Int) : L0_4 N (k + 1) (v0, v1) =
  (bif (decide (v1 < (3 : Int)))
  then (Option.bind (F10 N (v1, (256 : Int), (24 : Int))) fun y2 =>
    (bif (v1 != (1 : Int))
    then (chk (room (v0.length + 1) 48)
      (L0_4 N k ((v0 ++ [((2 : Int), y2.2.1, y2.2.2.1, y2.2.2.2.1, y2.2.2.2.2.1, (5 : Int))]), (wi64 (v1 + (1 : Int))))))
    else (chk (room (v0.length + 1) 48)
      (L0_4 N k ((v0 ++ [(y2.1, y2.2.1, y2.2.2.1, y2.2.2.2.1, y2.2.2.2.2.1, y2.2.2.2.2.2.1)]), (wi64 (v1 + (1 : Int))))))))
  else some v0) := by kernel_rfl
def E1 (N : Nat) : SEnv := (E0 N).addLoop N 0 4 T0_4 O0_4
theorem ok1 (N : Nat) : EnvOK tab (E1 N) := (ok0 N).addLoop N 0 4 T0_4 O0_4
def args : List PSh := []
def ta : List Ty := []
def res : List (Bool × List CSh) := [(false, [.sl TRoutine .d])]
def tr : List Ty := [(.sl TRoutine)]
end f32
def F32 (N : Nat) (x : Unit) : Option (List (Routine)) := fnRun (f32.E1 N) fuelW 32 f32.args f32.ta f32.res f32.tr x
open f32 in
theorem F32_eq (N : Nat) : F32 N () =
  (Option.bind (L0_4 N N ([], (0 : Int))) fun y3 =>
  some y3) := by kernel_rfl
def c32 (N : Nat) : Sym.Callee := ⟨f32.args, f32.ta, f32.res, f32.tr, F32 N⟩
theorem ok32 (N : Nat) : CalOK tab 32 (c32 N) := fn_ok (f32.ok1 N) fuelW 32 f32.args f32.ta f32.res f32.tr

/- wreckage/routine.Wake -/
namespace f17
def cuts : Nat → Nat → Option Outs := fun _ _ => none
def ccut : Nat → Nat → Option Outs := fun _ _ => none
def ety : Nat → Nat → Option Ty := fun _ _ => none
def E0 (N : Nat) : SEnv := (SEnv.base tab cuts ccut ety).addCal 13 (c13 N)
theorem ok0 (N : Nat) : EnvOK tab (E0 N) := (base_ok tab cuts ccut ety).addCal (ok13 N)
def T1019000_3 : Tmpl := ⟨[(0, .c (.ref 0 16 0 TRoutine)), (1, .clo 35 [.ptr 0 3 1 0 0]), (7, .c (.int .i64)), (8, .c (.int .i64))], [[(8, .c (.ref 0 16 0 TRoutine))]], [(0, 16, .row 0 TRoutine), (0, 3, .box 1 [.int .i64])], 2, [], 2, [(.int .i64), (.int .i64), (.sl TRoutine), (.int .i64)]⟩
def O1019000_3 : Outs := [(.ret, ⟨[(4, .c (.int .i64))], [[(8, .c (.ref 0 16 0 TRoutine))]], [(0, 16, .row 0 TRoutine)], 2, [], 1, [(.int .i64), (.sl TRoutine)]⟩), (.exit 0, ⟨[], [[(8, .c (.ref 0 16 0 TRoutine))]], [(0, 16, .row 0 TRoutine)], 2, [], 1, [(.sl TRoutine)]⟩)]
def L1019000_3 (N k : Nat) (x : (Int) × (Int) × (List (Routine)) × Int) : Option (((Int) × List (Routine)) ⊕ (List (Routine))) := loopF (loopStep (E0 N) fuelW 1019000 3 (bodyAt t34 3) T1019000_3 O1019000_3) k x
theorem L1019000_3_succ (N k : Nat) (v1 : Int) (v2 : Int) (v3 : List (Routine)) (v4 : Int) : L1019000_3 N (k + 1) (v1, v2, v3, v4) =
  (bif (decide (v2 < v1))
  then (chk (inR v2 v3.length)
    ((Option.bind (v3[(Int.toNat v2)]?) fun x5 =>
    (bif (x5.1 == (2 : Int))
    then (bif (x5.2.2.2.2.2 == v4)
      then some (.inl (v2, v3))
      else L1019000_3 N k (v1, (wi64 (v2 + (1 : Int))), v3, v4))
    else L1019000_3 N k (v1, (wi64 (v2 + (1 : Int))), v3, v4)))))
  else some (.inr v3)) := by kernel_rfl
def E1 (N : Nat) : SEnv := (E0 N).addLoop N 1019000 3 T1019000_3 O1019000_3
theorem ok1 (N : Nat) : EnvOK tab (E1 N) := (ok0 N).addLoop N 1019000 3 T1019000_3 O1019000_3
def args : List PSh := [.c (.sl TRoutine .bor), .c (.int .i64)]
def ta : List Ty := [(.sl TRoutine), (.int .i64)]
def res : List (Bool × List CSh) := [(false, [.sl TRoutine .d]), (false, [.int .i64]), (false, [.int .i64])]
def tr : List Ty := [(.sl TRoutine), (.int .i64), (.int .i64)]
end f17
def F17 (N : Nat) (x : (List (Routine)) × Int) : Option ((List (Routine)) × (Int) × Int) := fnRun (f17.E1 N) fuelW 17 f17.args f17.ta f17.res f17.tr x
open f17 in
theorem F17_eq (N : Nat) (p0 : List (Routine)) (p1 : Int) : F17 N (p0, p1) =
  (Option.bind (F13 N p0) fun y0 =>
  (bif (y0 != (0 : Int))
  then some ([], (0 : Int), y0)
  else (chk (room p0.length 48)
    ((Option.bind (L1019000_3 N N ((p0.length : Int), (0 : Int), p0, p1)) fun y6 =>
    (match y6 with
    | .inl a7 => (bif (decide (a7.1 ≥ (0 : Int)))
      then (chk (inR a7.1 a7.2.length)
        ((Option.bind (a7.2[(Int.toNat a7.1)]?) fun x9 =>
        (chk (inR a7.1 (a7.2.set (Int.toNat a7.1) ((1 : Int), x9.2)).length)
        ((Option.bind ((a7.2.set (Int.toNat a7.1) ((1 : Int), x9.2))[(Int.toNat a7.1)]?) fun x10 =>
        some (((a7.2.set (Int.toNat a7.1) ((1 : Int), x9.2)).set (Int.toNat a7.1) (x10.1, x10.2.1, x10.2.2.1, x10.2.2.2.1, x10.2.2.2.2.1, (0 : Int))), a7.1, (0 : Int))))))))
      else some (a7.2, a7.1, (0 : Int)))
    | .inr b8 => some (b8, (-1 : Int), (0 : Int)))))))) := by kernel_rfl
def c17 (N : Nat) : Sym.Callee := ⟨f17.args, f17.ta, f17.res, f17.tr, F17 N⟩
theorem ok17 (N : Nat) : CalOK tab 17 (c17 N) := fn_ok (f17.ok1 N) fuelW 17 f17.args f17.ta f17.res f17.tr

/- wreckage/wreckagelaw19.alive -/
namespace f16
def cuts : Nat → Nat → Option Outs := fun _ _ => none
def ccut : Nat → Nat → Option Outs := fun _ _ => none
def ety : Nat → Nat → Option Ty := fun c d => match c, d with
  | 0, 80 => some (.int .i64)
  | _, _ => none
def E0 (N : Nat) : SEnv := ((((SEnv.base tab cuts ccut ety).addCal 32 (c32 N)).addCal 17 (c17 N)).addCal 11 (c11 N)).addCal 15 (c15 N)
theorem ok0 (N : Nat) : EnvOK tab (E0 N) := ((((base_ok tab cuts ccut ety).addCal (ok32 N)).addCal (ok17 N)).addCal (ok11 N)).addCal (ok15 N)
def args : List PSh := []
def ta : List Ty := []
def res : List (Bool × List CSh) := [(false, [.bool])]
def tr : List Ty := [.bool]
end f16
def F16 (N : Nat) (x : Unit) : Option (Bool) := fnRun (f16.E0 N) fuelW 16 f16.args f16.ta f16.res f16.tr x
open f16 in
theorem F16_eq (N : Nat) : F16 N () =
  (Option.bind (F32 N ()) fun y0 =>
  (Option.bind (F17 N (y0, (5 : Int))) fun y1 =>
  (Option.bind (F17 N (y1.1, (5 : Int))) fun y2 =>
  (Option.bind (F17 N (y2.1, (5 : Int))) fun y3 =>
  (Option.bind (F32 N ()) fun y4 =>
  (Option.bind (F17 N (y4, (6 : Int))) fun y5 =>
  (Option.bind (F11 N y3.1) fun y6 =>
  (bif (y1.2.2 == (0 : Int))
  then (bif (y2.2.2 == (0 : Int))
    then (bif (y3.2.2 == (0 : Int))
      then (bif (y5.2.2 == (0 : Int))
        then (bif (y6.2 == (0 : Int))
          then (bif (y1.2.1 == (0 : Int))
            then (bif (y2.2.1 == (2 : Int))
              then (bif (y3.2.1 == (-1 : Int))
                then (bif (y5.2.1 == (-1 : Int))
                  then (Option.bind (F15 N (y6.1, [(0 : Int), (1 : Int), (2 : Int)])) fun y7 =>
                    some y7)
                  else some false)
                else some false)
              else some false)
            else some false)
          else some false)
        else some false)
      else some false)
    else some false)
  else some false)))))))) := by kernel_rfl
def c16 (N : Nat) : Sym.Callee := ⟨f16.args, f16.ta, f16.res, f16.tr, F16 N⟩
theorem ok16 (N : Nat) : CalOK tab 16 (c16 N) := fn_ok (f16.ok0 N) fuelW 16 f16.args f16.ta f16.res f16.tr

/- wreckage/wreckagelaw19.RoutineFirst -/
namespace f4
def cuts : Nat → Nat → Option Outs := fun _ _ => none
def ccut : Nat → Nat → Option Outs := fun _ _ => none
def ety : Nat → Nat → Option Ty := fun _ _ => none
def E0 (N : Nat) : SEnv := ((((SEnv.base tab cuts ccut ety).addCal 16 (c16 N)).addCal 14 (c14 N)).addCal 17 (c17 N)).addCal 13 (c13 N)
theorem ok0 (N : Nat) : EnvOK tab (E0 N) := ((((base_ok tab cuts ccut ety).addCal (ok16 N)).addCal (ok14 N)).addCal (ok17 N)).addCal (ok13 N)
def T0_12 : Tmpl := ⟨[(0, .c (.sl TRoutine .d)), (1, .c (.int .i64)), (5, .c (.bool)), (6, .c (.sl TRoutine .d)), (7, .c (.int .i64)), (9, .c (.int .i64)), (10, .c (.int .i64))], [], [], 1, [], 0, [(.sl TRoutine), (.int .i64), .bool, (.sl TRoutine), (.int .i64), (.int .i64), (.int .i64)]⟩
def O0_12 : Outs := [(.ret, ⟨[(4, .c (.bool))], [], [], 1, [], 0, [.bool]⟩), (.exit 0, ⟨[(5, .c (.bool)), (7, .c (.int .i64)), (9, .c (.int .i64))], [], [], 1, [], 0, [.bool, (.int .i64), (.int .i64)]⟩)]
def L0_12 (N k : Nat) (x : (List (Routine)) × (Int) × (Bool) × (List (Routine)) × (Int) × (Int) × Int) : Option ((Bool) ⊕ ((Bool) × (Int) × Int)) := loopF (loopStep (E0 N) fuelW 0 12 (bodyAt t4 12) T0_12 O0_12) k x
theorem L0_12_succ (N k : Nat) (v4 : List (Routine)) (v5 : Int) (v6 : Bool) (v7 : List (Routine)) (v8 : Int) (v9 : Int) (v10 : Int) : L0_12 N (k + 1) (v4, v5, v6, v7, v8, v9, v10) =
  (bif (decide (v10 < (v4.length : Int)))
  then (Option.bind (idx v4 v10) fun x11 =>
    (bif (x11.1 == (2 : Int))
    then (Option.bind (idx v4 v10) fun x12 =>
      (bif (x12.2.2.2.2.2 == v5)
      then (bif (decide (v9 < (0 : Int)))
        then (Option.bind (idx v4 v10) fun x13 =>
          (Option.bind (idx v7 v10) fun x14 =>
          (bif (!(x14.1 == (1 : Int) && (x14.2.1 == x13.2.1 && (x14.2.2.1 == x13.2.2.1 && (x14.2.2.2.1 == x13.2.2.2.1 && (x14.2.2.2.2.1 == x13.2.2.2.2.1 && (x14.2.2.2.2.2 == (0 : Int) && true)))))))
          then some (.inl false)
          else L0_12 N k (v4, v5, v6, v7, v8, v10, (wi64 (v10 + (1 : Int)))))))
        else (Option.bind (idx v7 v10) fun x15 =>
          (Option.bind (idx v4 v10) fun x16 =>
          (bif (!(x15.1 == x16.1 && (x15.2.1 == x16.2.1 && (x15.2.2.1 == x16.2.2.1 && (x15.2.2.2.1 == x16.2.2.2.1 && (x15.2.2.2.2.1 == x16.2.2.2.2.1 && (x15.2.2.2.2.2 == x16.2.2.2.2.2 && true)))))))
          then some (.inl false)
          else L0_12 N k (v4, v5, v6, v7, v8, v9, (wi64 (v10 + (1 : Int))))))))
      else (Option.bind (idx v7 v10) fun x17 =>
        (Option.bind (idx v4 v10) fun x18 =>
        (bif (!(x17.1 == x18.1 && (x17.2.1 == x18.2.1 && (x17.2.2.1 == x18.2.2.1 && (x17.2.2.2.1 == x18.2.2.2.1 && (x17.2.2.2.2.1 == x18.2.2.2.2.1 && (x17.2.2.2.2.2 == x18.2.2.2.2.2 && true)))))))
        then some (.inl false)
        else L0_12 N k (v4, v5, v6, v7, v8, v9, (wi64 (v10 + (1 : Int)))))))))
    else (Option.bind (idx v7 v10) fun x19 =>
      (Option.bind (idx v4 v10) fun x20 =>
      (bif (!(x19.1 == x20.1 && (x19.2.1 == x20.2.1 && (x19.2.2.1 == x20.2.2.1 && (x19.2.2.2.1 == x20.2.2.2.1 && (x19.2.2.2.2.1 == x20.2.2.2.2.1 && (x19.2.2.2.2.2 == x20.2.2.2.2.2 && true)))))))
      then some (.inl false)
      else L0_12 N k (v4, v5, v6, v7, v8, v9, (wi64 (v10 + (1 : Int)))))))))
  else some (.inr (v6, v8, v9))) := by kernel_rfl
def E1 (N : Nat) : SEnv := (E0 N).addLoop N 0 12 T0_12 O0_12
theorem ok1 (N : Nat) : EnvOK tab (E1 N) := (ok0 N).addLoop N 0 12 T0_12 O0_12
def args : List PSh := [.c (.sl TRoutine .d), .c (.int .i64)]
def ta : List Ty := [(.sl TRoutine), (.int .i64)]
def res : List (Bool × List CSh) := [(false, [.bool])]
def tr : List Ty := [.bool]
end f4
def F4 (N : Nat) (x : (List (Routine)) × Int) : Option (Bool) := fnRun (f4.E1 N) fuelW 4 f4.args f4.ta f4.res f4.tr x
open f4 in
theorem F4_eq (N : Nat) (p0 : List (Routine)) (p1 : Int) : F4 N (p0, p1) =
  (Option.bind (F16 N ()) fun y0 =>
  (Option.bind (F14 N p0) fun y1 =>
  (bif (y1 != (0 : Int))
  then some y0
  else (bif (!y0)
    then some y0
    else (Option.bind (F17 N (p0, p1)) fun y2 =>
      (bif (y2.2.2 != (0 : Int))
      then some false
      else (bif ((y2.1.length : Int) != (p0.length : Int))
        then some false
        else (Option.bind (F13 N y2.1) fun y3 =>
          (bif (y3 != (0 : Int))
          then some false
          else (Option.bind (L0_12 N N (p0, p1, y0, y2.1, y2.2.1, (-1 : Int), (0 : Int))) fun y21 =>
            (match y21 with
            | .inl a22 => some a22
            | .inr b23 => (bif b23.1
              then some (b23.2.1 == b23.2.2)
              else some false)))))))))))) := by kernel_rfl
def c4 (N : Nat) : Sym.Callee := ⟨f4.args, f4.ta, f4.res, f4.tr, F4 N⟩
theorem ok4 (N : Nat) : CalOK tab 4 (c4 N) := fn_ok (f4.ok1 N) fuelW 4 f4.args f4.ta f4.res f4.tr

/- wreckage/routine.numbered -/
namespace f36
def cuts : Nat → Nat → Option Outs := fun _ _ => none
def ccut : Nat → Nat → Option Outs := fun _ _ => none
def ety : Nat → Nat → Option Ty := fun _ _ => none
def E0 (N : Nat) : SEnv := (SEnv.base tab cuts ccut ety).addCal 13 (c13 N)
theorem ok0 (N : Nat) : EnvOK tab (E0 N) := (base_ok tab cuts ccut ety).addCal (ok13 N)
def args : List PSh := [.c (.sl TRoutine .bor), .c (.int .i64)]
def ta : List Ty := [(.sl TRoutine), (.int .i64)]
def res : List (Bool × List CSh) := [(false, [.int .i64])]
def tr : List Ty := [(.int .i64)]
end f36
def F36 (N : Nat) (x : (List (Routine)) × Int) : Option (Int) := fnRun (f36.E0 N) fuelW 36 f36.args f36.ta f36.res f36.tr x
open f36 in
theorem F36_eq (N : Nat) (p0 : List (Routine)) (p1 : Int) : F36 N (p0, p1) =
  (Option.bind (F13 N p0) fun y0 =>
  (bif (y0 != (0 : Int))
  then some y0
  else (bif (decide (p1 < (0 : Int)))
    then some (2 : Int)
    else (bif (decide (p1 ≥ (p0.length : Int)))
      then some (2 : Int)
      else some (0 : Int))))) := by kernel_rfl
def c36 (N : Nat) : Sym.Callee := ⟨f36.args, f36.ta, f36.res, f36.tr, F36 N⟩
theorem ok36 (N : Nat) : CalOK tab 36 (c36 N) := fn_ok (f36.ok0 N) fuelW 36 f36.args f36.ta f36.res f36.tr

/- wreckage/routine.Block -/
namespace f19
def cuts : Nat → Nat → Option Outs := fun _ _ => none
def ccut : Nat → Nat → Option Outs := fun _ _ => none
def ety : Nat → Nat → Option Ty := fun _ _ => none
def E0 (N : Nat) : SEnv := (SEnv.base tab cuts ccut ety).addCal 36 (c36 N)
theorem ok0 (N : Nat) : EnvOK tab (E0 N) := (base_ok tab cuts ccut ety).addCal (ok36 N)
def args : List PSh := [.c (.sl TRoutine .bor), .c (.int .i64), .c (.int .i64)]
def ta : List Ty := [(.sl TRoutine), (.int .i64), (.int .i64)]
def res : List (Bool × List CSh) := [(false, [.sl TRoutine .d]), (false, [.int .i64])]
def tr : List Ty := [(.sl TRoutine), (.int .i64)]
end f19
def F19 (N : Nat) (x : (List (Routine)) × (Int) × Int) : Option ((List (Routine)) × Int) := fnRun (f19.E0 N) fuelW 19 f19.args f19.ta f19.res f19.tr x
open f19 in
theorem F19_eq (N : Nat) (p0 : List (Routine)) (p1 : Int) (p2 : Int) : F19 N (p0, p1, p2) =
  (Option.bind (F36 N (p0, p1)) fun y0 =>
  (bif (y0 != (0 : Int))
  then some ([], y0)
  else (Option.bind (idx p0 p1) fun x1 =>
    (bif (x1.1 != (1 : Int))
    then some ([], (36 : Int))
    else (chk (room p0.length 48)
      ((chk (inR p1 p0.length)
      ((Option.bind (p0[(Int.toNat p1)]?) fun x2 =>
      (chk (inR p1 (p0.set (Int.toNat p1) ((2 : Int), x2.2)).length)
      ((Option.bind ((p0.set (Int.toNat p1) ((2 : Int), x2.2))[(Int.toNat p1)]?) fun x3 =>
      some (((p0.set (Int.toNat p1) ((2 : Int), x2.2)).set (Int.toNat p1) (x3.1, x3.2.1, x3.2.2.1, x3.2.2.2.1, x3.2.2.2.2.1, p2)), (0 : Int)))))))))))))) := by kernel_rfl
def c19 (N : Nat) : Sym.Callee := ⟨f19.args, f19.ta, f19.res, f19.tr, F19 N⟩
theorem ok19 (N : Nat) : CalOK tab 19 (c19 N) := fn_ok (f19.ok0 N) fuelW 19 f19.args f19.ta f19.res f19.tr

/- wreckage/wreckageref19.Same -/
namespace f24
def cuts : Nat → Nat → Option Outs := fun _ _ => none
def ccut : Nat → Nat → Option Outs := fun _ _ => none
def ety : Nat → Nat → Option Ty := fun _ _ => none
def E0 (N : Nat) : SEnv := SEnv.base tab cuts ccut ety
theorem ok0 (N : Nat) : EnvOK tab (E0 N) := base_ok tab cuts ccut ety
def T0_6 : Tmpl := ⟨[(0, .c (.sl TRoutine .bor)), (1, .c (.sl TRoutine .bor)), (5, .c (.int .i64))], [], [], 1, [], 0, [(.sl TRoutine), (.sl TRoutine), (.int .i64)]⟩
def O0_6 : Outs := [(.ret, ⟨[(4, .c (.bool))], [], [], 1, [], 0, [.bool]⟩), (.exit 0, ⟨[], [], [], 1, [], 0, []⟩)]
def L0_6 (N k : Nat) (x : (List (Routine)) × (List (Routine)) × Int) : Option ((Bool) ⊕ (Unit)) := loopF (loopStep (E0 N) fuelW 0 6 (bodyAt t24 6) T0_6 O0_6) k x
theorem L0_6_succ (N k : Nat) (v0 : List (Routine)) (v1 : List (Routine)) (v2 : Int) : L0_6 N (k + 1) (v0, v1, v2) =
  (bif (decide (v2 < (v0.length : Int)))
  then (Option.bind (idx v0 v2) fun x3 =>
    (Option.bind (idx v1 v2) fun x4 =>
    (bif (!(x3.1 == x4.1 && (x3.2.1 == x4.2.1 && (x3.2.2.1 == x4.2.2.1 && (x3.2.2.2.1 == x4.2.2.2.1 && (x3.2.2.2.2.1 == x4.2.2.2.2.1 && (x3.2.2.2.2.2 == x4.2.2.2.2.2 && true)))))))
    then some (.inl false)
    else L0_6 N k (v0, v1, (wi64 (v2 + (1 : Int)))))))
  else some (.inr ())) := by kernel_rfl
def E1 (N : Nat) : SEnv := (E0 N).addLoop N 0 6 T0_6 O0_6
theorem ok1 (N : Nat) : EnvOK tab (E1 N) := (ok0 N).addLoop N 0 6 T0_6 O0_6
def args : List PSh := [.c (.sl TRoutine .bor), .c (.sl TRoutine .bor)]
def ta : List Ty := [(.sl TRoutine), (.sl TRoutine)]
def res : List (Bool × List CSh) := [(false, [.bool])]
def tr : List Ty := [.bool]
end f24
def F24 (N : Nat) (x : (List (Routine)) × List (Routine)) : Option (Bool) := fnRun (f24.E1 N) fuelW 24 f24.args f24.ta f24.res f24.tr x
open f24 in
theorem F24_eq (N : Nat) (p0 : List (Routine)) (p1 : List (Routine)) : F24 N (p0, p1) =
  (bif ((p0.length : Int) != (p1.length : Int))
  then some false
  else (Option.bind (L0_6 N N (p0, p1, (0 : Int))) fun y5 =>
    (match y5 with
    | .inl a6 => some a6
    | .inr b7 => some true))) := by kernel_rfl
def c24 (N : Nat) : Sym.Callee := ⟨f24.args, f24.ta, f24.res, f24.tr, F24 N⟩
theorem ok24 (N : Nat) : CalOK tab 24 (c24 N) := fn_ok (f24.ok1 N) fuelW 24 f24.args f24.ta f24.res f24.tr

/- wreckage/wreckagelaw19.RoutineBack -/
namespace f6
def cuts : Nat → Nat → Option Outs := fun _ _ => none
def ccut : Nat → Nat → Option Outs := fun _ _ => none
def ety : Nat → Nat → Option Ty := fun c d => match c, d with
  | 0, 64 => some (.int .i64)
  | _, _ => none
def E0 (N : Nat) : SEnv := (((((SEnv.base tab cuts ccut ety).addCal 16 (c16 N)).addCal 14 (c14 N)).addCal 19 (c19 N)).addCal 17 (c17 N)).addCal 24 (c24 N)
theorem ok0 (N : Nat) : EnvOK tab (E0 N) := (((((base_ok tab cuts ccut ety).addCal (ok16 N)).addCal (ok14 N)).addCal (ok19 N)).addCal (ok17 N)).addCal (ok24 N)
def T0_8 : Tmpl := ⟨[(0, .c (.sl TRoutine .d)), (1, .c (.int .i64)), (2, .c (.int .i64)), (7, .c (.bool)), (8, .c (.sl (.int .i64) (.app 0))), (9, .c (.int .i64))], [], [], 1, [0], 1, [(.sl TRoutine), (.int .i64), (.int .i64), .bool, (.sl (.int .i64)), (.int .i64)]⟩
def O0_8 : Outs := [(.exit 0, ⟨[(0, .c (.sl TRoutine .d)), (1, .c (.int .i64)), (2, .c (.int .i64)), (7, .c (.bool)), (8, .c (.sl (.int .i64) (.app 0)))], [], [], 1, [0], 1, [(.sl TRoutine), (.int .i64), (.int .i64), .bool, (.sl (.int .i64))]⟩)]
def L0_8 (N k : Nat) (x : (List (Routine)) × (Int) × (Int) × (Bool) × (List (Int)) × Int) : Option (((List (Routine)) × (Int) × (Int) × (Bool) × List (Int))) := loopF (loopStep (E0 N) fuelW 0 8 (bodyAt t6 8) T0_8 O0_8) k x
theorem L0_8_succ (N k : Nat) (v2 : List (Routine)) (v3 : Int) (v4 : Int) (v5 : Bool) (v6 : List (Int)) (v7 : Int) : L0_8 N (k + 1) (v2, v3, v4, v5, v6, v7) =
  (bif (decide (v7 < (v2.length : Int)))
  then (Option.bind (idx v2 v7) fun x8 =>
    (bif (x8.1 == (2 : Int))
    then (Option.bind (idx v2 v7) fun x9 =>
      (bif (x9.2.2.2.2.2 == v4)
      then (chk (room (v6.length + 1) 8)
        (L0_8 N k (v2, v3, v4, v5, (v6 ++ [v7]), (wi64 (v7 + (1 : Int))))))
      else L0_8 N k (v2, v3, v4, v5, v6, (wi64 (v7 + (1 : Int))))))
    else L0_8 N k (v2, v3, v4, v5, v6, (wi64 (v7 + (1 : Int))))))
  else some (v2, v3, v4, v5, v6)) := by kernel_rfl
def E1 (N : Nat) : SEnv := (E0 N).addLoop N 0 8 T0_8 O0_8
theorem ok1 (N : Nat) : EnvOK tab (E1 N) := (ok0 N).addLoop N 0 8 T0_8 O0_8
def T0_28 : Tmpl := ⟨[(0, .c (.sl TRoutine .d)), (2, .c (.int .i64)), (7, .c (.bool)), (8, .c (.sl (.int .i64) (.app 0))), (15, .c (.int .i64))], [], [], 1, [0], 1, [(.sl TRoutine), (.int .i64), .bool, (.sl (.int .i64)), (.int .i64)]⟩
def O0_28 : Outs := [(.ret, ⟨[(6, .c (.bool))], [], [], 1, [], 0, [.bool]⟩), (.exit 2, ⟨[(0, .c (.sl TRoutine .d)), (2, .c (.int .i64)), (7, .c (.bool))], [], [], 1, [], 0, [(.sl TRoutine), (.int .i64), .bool]⟩)]
def L0_28 (N k : Nat) (x : (List (Routine)) × (Int) × (Bool) × (List (Int)) × Int) : Option ((Bool) ⊕ ((List (Routine)) × (Int) × Bool)) := loopF (loopStep (E1 N) fuelW 0 28 (bodyAt t6 28) T0_28 O0_28) k x
theorem L0_28_succ (N k : Nat) (v15 : List (Routine)) (v16 : Int) (v17 : Bool) (v18 : List (Int)) (v19 : Int) : L0_28 N (k + 1) (v15, v16, v17, v18, v19) =
  (bif (decide (v19 < (v18.length : Int)))
  then (Option.bind (F17 N (v15, v16)) fun y20 =>
    (bif (y20.2.2 != (0 : Int))
    then some (.inl false)
    else (Option.bind (idx v18 v19) fun x21 =>
      (bif (y20.2.1 != x21)
      then some (.inl false)
      else (Option.bind (F14 N y20.1) fun y22 =>
        (bif (y22 != (0 : Int))
        then some (.inl false)
        else L0_28 N k (y20.1, v16, v17, v18, (wi64 (v19 + (1 : Int))))))))))
  else some (.inr (v15, v16, v17))) := by kernel_rfl
def E2 (N : Nat) : SEnv := (E1 N).addLoop N 0 28 T0_28 O0_28
theorem ok2 (N : Nat) : EnvOK tab (E2 N) := (ok1 N).addLoop N 0 28 T0_28 O0_28
def args : List PSh := [.c (.sl TRoutine .d), .c (.int .i64), .c (.int .i64)]
def ta : List Ty := [(.sl TRoutine), (.int .i64), (.int .i64)]
def res : List (Bool × List CSh) := [(false, [.bool])]
def tr : List Ty := [.bool]
end f6
def F6 (N : Nat) (x : (List (Routine)) × (Int) × Int) : Option (Bool) := fnRun (f6.E2 N) fuelW 6 f6.args f6.ta f6.res f6.tr x
open f6 in
theorem F6_eq (N : Nat) (p0 : List (Routine)) (p1 : Int) (p2 : Int) : F6 N (p0, p1, p2) =
  (Option.bind (F16 N ()) fun y0 =>
  (Option.bind (F14 N p0) fun y1 =>
  (bif (y1 != (0 : Int))
  then some y0
  else (bif (decide (p1 < (0 : Int)))
    then some y0
    else (bif (decide (p1 ≥ (p0.length : Int)))
      then some y0
      else (bif (!y0)
        then some y0
        else (Option.bind (L0_8 N N (p0, p1, p2, y0, [], (0 : Int))) fun y10 =>
          (Option.bind (F19 N (y10.1, y10.2.1, y10.2.2.1)) fun y11 =>
          (Option.bind (idx y10.1 y10.2.1) fun x12 =>
          (bif (!((y11.2 == (0 : Int)) == (x12.1 == (1 : Int))))
          then some false
          else (bif (y11.2 != (0 : Int))
            then (bif (y11.2 != (36 : Int))
              then some false
              else (bif (y11.2 == (0 : Int))
                then (bif ((y10.2.2.2.2.length : Int) == (0 : Int))
                  then (Option.bind (F17 N (y11.1, y10.2.2.1)) fun y13 =>
                    (bif (y13.2.2 != (0 : Int))
                    then some false
                    else (bif (y13.2.1 != y10.2.1)
                      then some false
                      else (Option.bind (F24 N (y13.1, y10.1)) fun y14 =>
                        (bif (!y14)
                        then some false
                        else (Option.bind (L0_28 N N (y10.1, y10.2.2.1, y10.2.2.2.1, y10.2.2.2.2, (0 : Int))) fun y23 =>
                          (match y23 with
                          | .inl a24 => some a24
                          | .inr b25 => (Option.bind (F17 N (b25.1, b25.2.1)) fun y26 =>
                            (bif b25.2.2
                            then (bif (y26.2.2 == (0 : Int))
                              then (bif (y26.2.1 == (-1 : Int))
                                then (Option.bind (F24 N (y26.1, b25.1)) fun y27 =>
                                  some y27)
                                else some false)
                              else some false)
                            else some false)))))))))
                  else (Option.bind (L0_28 N N (y10.1, y10.2.2.1, y10.2.2.2.1, y10.2.2.2.2, (0 : Int))) fun y28 =>
                    (match y28 with
                    | .inl a29 => some a29
                    | .inr b30 => (Option.bind (F17 N (b30.1, b30.2.1)) fun y31 =>
                      (bif b30.2.2
                      then (bif (y31.2.2 == (0 : Int))
                        then (bif (y31.2.1 == (-1 : Int))
                          then (Option.bind (F24 N (y31.1, b30.1)) fun y32 =>
                            some y32)
                          else some false)
                        else some false)
                      else some false)))))
                else (Option.bind (L0_28 N N (y10.1, y10.2.2.1, y10.2.2.2.1, y10.2.2.2.2, (0 : Int))) fun y33 =>
                  (match y33 with
                  | .inl a34 => some a34
                  | .inr b35 => (Option.bind (F17 N (b35.1, b35.2.1)) fun y36 =>
                    (bif b35.2.2
                    then (bif (y36.2.2 == (0 : Int))
                      then (bif (y36.2.1 == (-1 : Int))
                        then (Option.bind (F24 N (y36.1, b35.1)) fun y37 =>
                          some y37)
                        else some false)
                      else some false)
                    else some false))))))
            else (bif (y11.2 == (0 : Int))
              then (bif ((y10.2.2.2.2.length : Int) == (0 : Int))
                then (Option.bind (F17 N (y11.1, y10.2.2.1)) fun y38 =>
                  (bif (y38.2.2 != (0 : Int))
                  then some false
                  else (bif (y38.2.1 != y10.2.1)
                    then some false
                    else (Option.bind (F24 N (y38.1, y10.1)) fun y39 =>
                      (bif (!y39)
                      then some false
                      else (Option.bind (L0_28 N N (y10.1, y10.2.2.1, y10.2.2.2.1, y10.2.2.2.2, (0 : Int))) fun y40 =>
                        (match y40 with
                        | .inl a41 => some a41
                        | .inr b42 => (Option.bind (F17 N (b42.1, b42.2.1)) fun y43 =>
                          (bif b42.2.2
                          then (bif (y43.2.2 == (0 : Int))
                            then (bif (y43.2.1 == (-1 : Int))
                              then (Option.bind (F24 N (y43.1, b42.1)) fun y44 =>
                                some y44)
                              else some false)
                            else some false)
                          else some false)))))))))
                else (Option.bind (L0_28 N N (y10.1, y10.2.2.1, y10.2.2.2.1, y10.2.2.2.2, (0 : Int))) fun y45 =>
                  (match y45 with
                  | .inl a46 => some a46
                  | .inr b47 => (Option.bind (F17 N (b47.1, b47.2.1)) fun y48 =>
                    (bif b47.2.2
                    then (bif (y48.2.2 == (0 : Int))
                      then (bif (y48.2.1 == (-1 : Int))
                        then (Option.bind (F24 N (y48.1, b47.1)) fun y49 =>
                          some y49)
                        else some false)
                      else some false)
                    else some false)))))
              else (Option.bind (L0_28 N N (y10.1, y10.2.2.1, y10.2.2.2.1, y10.2.2.2.2, (0 : Int))) fun y50 =>
                (match y50 with
                | .inl a51 => some a51
                | .inr b52 => (Option.bind (F17 N (b52.1, b52.2.1)) fun y53 =>
                  (bif b52.2.2
                  then (bif (y53.2.2 == (0 : Int))
                    then (bif (y53.2.1 == (-1 : Int))
                      then (Option.bind (F24 N (y53.1, b52.1)) fun y54 =>
                        some y54)
                      else some false)
                    else some false)
                  else some false)))))))))))))))) := by kernel_rfl
def c6 (N : Nat) : Sym.Callee := ⟨f6.args, f6.ta, f6.res, f6.tr, F6 N⟩
theorem ok6 (N : Nat) : CalOK tab 6 (c6 N) := fn_ok (f6.ok2 N) fuelW 6 f6.args f6.ta f6.res f6.tr

/- wreckage/routine.End -/
namespace f22
def cuts : Nat → Nat → Option Outs := fun _ _ => none
def ccut : Nat → Nat → Option Outs := fun _ _ => none
def ety : Nat → Nat → Option Ty := fun _ _ => none
def E0 (N : Nat) : SEnv := ((SEnv.base tab cuts ccut ety).addCal 36 (c36 N)).addCal 26 (c26 N)
theorem ok0 (N : Nat) : EnvOK tab (E0 N) := ((base_ok tab cuts ccut ety).addCal (ok36 N)).addCal (ok26 N)
def args : List PSh := [.c (.sl TRoutine .bor), .c (.int .i64)]
def ta : List Ty := [(.sl TRoutine), (.int .i64)]
def res : List (Bool × List CSh) := [(false, [.sl TRoutine .d]), (false, [.int .i64])]
def tr : List Ty := [(.sl TRoutine), (.int .i64)]
end f22
def F22 (N : Nat) (x : (List (Routine)) × Int) : Option ((List (Routine)) × Int) := fnRun (f22.E0 N) fuelW 22 f22.args f22.ta f22.res f22.tr x
open f22 in
theorem F22_eq (N : Nat) (p0 : List (Routine)) (p1 : Int) : F22 N (p0, p1) =
  (Option.bind (F36 N (p0, p1)) fun y0 =>
  (bif (y0 != (0 : Int))
  then some ([], y0)
  else (Option.bind (idx p0 p1) fun x1 =>
    (bif (x1.1 == (3 : Int))
    then some ([], (36 : Int))
    else (chk (room p0.length 48)
      ((Option.bind (F26 N p1) fun y2 =>
      (chk (inR p1 p0.length)
      ((Option.bind (p0[(Int.toNat p1)]?) fun x3 =>
      some ((p0.set (Int.toNat p1) ((3 : Int), (0 : Int), y2, (0 : Int), (0 : Int), (0 : Int))), (0 : Int)))))))))))) := by kernel_rfl
def c22 (N : Nat) : Sym.Callee := ⟨f22.args, f22.ta, f22.res, f22.tr, F22 N⟩
theorem ok22 (N : Nat) : CalOK tab 22 (c22 N) := fn_ok (f22.ok0 N) fuelW 22 f22.args f22.ta f22.res f22.tr

/- wreckage/wreckagelaw19.RoutineEnds -/
namespace f7
def cuts : Nat → Nat → Option Outs := fun _ _ => none
def ccut : Nat → Nat → Option Outs := fun _ _ => none
def ety : Nat → Nat → Option Ty := fun _ _ => none
def E0 (N : Nat) : SEnv := ((((((SEnv.base tab cuts ccut ety).addCal 16 (c16 N)).addCal 14 (c14 N)).addCal 22 (c22 N)).addCal 19 (c19 N)).addCal 17 (c17 N)).addCal 11 (c11 N)
theorem ok0 (N : Nat) : EnvOK tab (E0 N) := ((((((base_ok tab cuts ccut ety).addCal (ok16 N)).addCal (ok14 N)).addCal (ok22 N)).addCal (ok19 N)).addCal (ok17 N)).addCal (ok11 N)
def T0_14 : Tmpl := ⟨[(0, .c (.sl TRoutine .d)), (1, .c (.int .i64)), (3, .c (.int .i64)), (9, .c (.bool)), (10, .c (.sl TRoutine .d)), (12, .c (.int .i64))], [], [], 1, [], 0, [(.sl TRoutine), (.int .i64), (.int .i64), .bool, (.sl TRoutine), (.int .i64)]⟩
def O0_14 : Outs := [(.ret, ⟨[(8, .c (.bool))], [], [], 1, [], 0, [.bool]⟩), (.exit 0, ⟨[(1, .c (.int .i64)), (3, .c (.int .i64)), (9, .c (.bool)), (10, .c (.sl TRoutine .d))], [], [], 1, [], 0, [(.int .i64), (.int .i64), .bool, (.sl TRoutine)]⟩)]
def L0_14 (N k : Nat) (x : (List (Routine)) × (Int) × (Int) × (Bool) × (List (Routine)) × Int) : Option ((Bool) ⊕ ((Int) × (Int) × (Bool) × List (Routine))) := loopF (loopStep (E0 N) fuelW 0 14 (bodyAt t7 14) T0_14 O0_14) k x
theorem L0_14_succ (N k : Nat) (v6 : List (Routine)) (v7 : Int) (v8 : Int) (v9 : Bool) (v10 : List (Routine)) (v11 : Int) : L0_14 N (k + 1) (v6, v7, v8, v9, v10, v11) =
  (bif (decide (v11 < (v6.length : Int)))
  then (bif (v11 != v7)
    then (Option.bind (idx v10 v11) fun x12 =>
      (Option.bind (idx v6 v11) fun x13 =>
      (bif (!(x12.1 == x13.1 && (x12.2.1 == x13.2.1 && (x12.2.2.1 == x13.2.2.1 && (x12.2.2.2.1 == x13.2.2.2.1 && (x12.2.2.2.2.1 == x13.2.2.2.2.1 && (x12.2.2.2.2.2 == x13.2.2.2.2.2 && true)))))))
      then some (.inl false)
      else L0_14 N k (v6, v7, v8, v9, v10, (wi64 (v11 + (1 : Int)))))))
    else L0_14 N k (v6, v7, v8, v9, v10, (wi64 (v11 + (1 : Int)))))
  else some (.inr (v7, v8, v9, v10))) := by kernel_rfl
def E1 (N : Nat) : SEnv := (E0 N).addLoop N 0 14 T0_14 O0_14
theorem ok1 (N : Nat) : EnvOK tab (E1 N) := (ok0 N).addLoop N 0 14 T0_14 O0_14
def T0_31 : Tmpl := ⟨[(1, .c (.int .i64)), (9, .c (.bool)), (10, .c (.sl TRoutine .d)), (20, .c (.sl (.int .i64) .d)), (22, .c (.int .i64))], [], [], 1, [], 0, [(.int .i64), .bool, (.sl TRoutine), (.sl (.int .i64)), (.int .i64)]⟩
def O0_31 : Outs := [(.ret, ⟨[(8, .c (.bool))], [], [], 1, [], 0, [.bool]⟩), (.exit 2, ⟨[(9, .c (.bool))], [], [], 1, [], 0, [.bool]⟩)]
def L0_31 (N k : Nat) (x : (Int) × (Bool) × (List (Routine)) × (List (Int)) × Int) : Option ((Bool) ⊕ (Bool)) := loopF (loopStep (E1 N) fuelW 0 31 (bodyAt t7 31) T0_31 O0_31) k x
theorem L0_31_succ (N k : Nat) (v23 : Int) (v24 : Bool) (v25 : List (Routine)) (v26 : List (Int)) (v27 : Int) : L0_31 N (k + 1) (v23, v24, v25, v26, v27) =
  (bif (decide (v27 < (v26.length : Int)))
  then (Option.bind (idx v26 v27) fun x28 =>
    (bif (x28 == v23)
    then some (.inl false)
    else (Option.bind (idx v26 v27) fun x29 =>
      (bif (decide (x29 < (0 : Int)))
      then some (.inl false)
      else (Option.bind (idx v26 v27) fun x30 =>
        (bif (decide (x30 ≥ (v25.length : Int)))
        then some (.inl false)
        else (Option.bind (idx v26 v27) fun x31 =>
          (Option.bind (idx v25 x31) fun x32 =>
          (bif (x32.1 != (1 : Int))
          then some (.inl false)
          else (bif (decide (v27 > (0 : Int)))
            then (Option.bind (idx v26 v27) fun x33 =>
              (Option.bind (idx v26 (wi64 (v27 - (1 : Int)))) fun x34 =>
              (bif (decide (x33 ≤ x34))
              then some (.inl false)
              else L0_31 N k (v23, v24, v25, v26, (wi64 (v27 + (1 : Int)))))))
            else L0_31 N k (v23, v24, v25, v26, (wi64 (v27 + (1 : Int))))))))))))))
  else some (.inr v24)) := by kernel_rfl
def E2 (N : Nat) : SEnv := (E1 N).addLoop N 0 31 T0_31 O0_31
theorem ok2 (N : Nat) : EnvOK tab (E2 N) := (ok1 N).addLoop N 0 31 T0_31 O0_31
def args : List PSh := [.c (.sl TRoutine .d), .c (.int .i64), .c (.int .i64), .c (.int .i64)]
def ta : List Ty := [(.sl TRoutine), (.int .i64), (.int .i64), (.int .i64)]
def res : List (Bool × List CSh) := [(false, [.bool])]
def tr : List Ty := [.bool]
end f7
def F7 (N : Nat) (x : (List (Routine)) × (Int) × (Int) × Int) : Option (Bool) := fnRun (f7.E2 N) fuelW 7 f7.args f7.ta f7.res f7.tr x
open f7 in
theorem F7_eq (N : Nat) (p0 : List (Routine)) (p1 : Int) (p2 : Int) (p3 : Int) : F7 N (p0, p1, p2, p3) =
  (Option.bind (F16 N ()) fun y0 =>
  (Option.bind (F14 N p0) fun y1 =>
  (bif (y1 != (0 : Int))
  then some y0
  else (bif (decide (p1 < (0 : Int)))
    then some y0
    else (bif (decide (p1 ≥ (p0.length : Int)))
      then some y0
      else (bif (decide (p2 < (0 : Int)))
        then some y0
        else (bif (decide (p2 ≥ (p0.length : Int)))
          then some y0
          else (bif (!y0)
            then some y0
            else (Option.bind (F22 N (p0, p1)) fun y2 =>
              (Option.bind (idx p0 p1) fun x3 =>
              (bif (x3.1 == (3 : Int))
              then (bif y0
                then some (y2.2 == (36 : Int))
                else some false)
              else (bif (y2.2 != (0 : Int))
                then some false
                else (bif ((y2.1.length : Int) != (p0.length : Int))
                  then some false
                  else (Option.bind (F14 N y2.1) fun y4 =>
                    (bif (y4 != (0 : Int))
                    then some false
                    else (Option.bind (idx y2.1 p1) fun x5 =>
                      (bif (x5.1 != (3 : Int))
                      then some false
                      else (Option.bind (L0_14 N N (p0, p1, p3, y0, y2.1, (0 : Int))) fun y14 =>
                        (match y14 with
                        | .inl a15 => some a15
                        | .inr b16 => (Option.bind (F19 N (b16.2.2.2, b16.1, b16.2.1)) fun y17 =>
                          (Option.bind (F22 N (b16.2.2.2, b16.1)) fun y18 =>
                          (Option.bind (F17 N (b16.2.2.2, b16.2.1)) fun y19 =>
                          (Option.bind (F11 N b16.2.2.2) fun y20 =>
                          (bif (y17.2 != (36 : Int))
                          then some false
                          else (bif (y18.2 != (36 : Int))
                            then some false
                            else (bif (y19.2.2 != (0 : Int))
                              then some false
                              else (bif (y19.2.1 == b16.1)
                                then some false
                                else (bif ((y19.1.length : Int) != (b16.2.2.2.length : Int))
                                  then some false
                                  else (Option.bind (idx y19.1 b16.1) fun x21 =>
                                    (Option.bind (idx b16.2.2.2 b16.1) fun x22 =>
                                    (bif (!(x21.1 == x22.1 && (x21.2.1 == x22.2.1 && (x21.2.2.1 == x22.2.2.1 && (x21.2.2.2.1 == x22.2.2.2.1 && (x21.2.2.2.2.1 == x22.2.2.2.2.1 && (x21.2.2.2.2.2 == x22.2.2.2.2.2 && true)))))))
                                    then some false
                                    else (bif (y20.2 != (0 : Int))
                                      then some false
                                      else (Option.bind (L0_31 N N (b16.1, b16.2.2.1, b16.2.2.2, y20.1, (0 : Int))) fun y35 =>
                                        (match y35 with
                                        | .inl a36 => some a36
                                        | .inr b37 => some b37)))))))))))))))))))))))))))))))))) := by kernel_rfl
def c7 (N : Nat) : Sym.Callee := ⟨f7.args, f7.ta, f7.res, f7.tr, F7 N⟩
theorem ok7 (N : Nat) : CalOK tab 7 (c7 N) := fn_ok (f7.ok2 N) fuelW 7 f7.args f7.ta f7.res f7.tr

end Go.Proofs.Ytkdjilgpknecfaa
