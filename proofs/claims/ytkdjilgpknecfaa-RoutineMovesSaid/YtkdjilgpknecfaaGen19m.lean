/- What the functions compute. -/
import Derived.Test.YtkdjilgpknecfaaTab19m
namespace Go.Proofs.Ytkdjilgpknecfaa
open Go Go.Eng Go.Sym
@[reducible] def TboundsError : Ty := (.prod (.int .i64) (.prod (.int .i64) (.prod .bool (.int .u8))))
abbrev boundsError : Type := (Int) × ((Int) × ((Bool) × (Int)))
@[reducible] def TerrorAddressString : Ty := (.prod .str (.int .u64))
abbrev errorAddressString : Type := (List UInt8) × (Int)
@[reducible] def TRoutine : Ty := (.prod (.int .u8) (.prod (.int .u64) (.prod (.int .u64) (.prod (.int .u64) (.prod (.int .u64) (.int .i64))))))
abbrev Routine : Type := (Int) × ((Int) × ((Int) × ((Int) × ((Int) × (Int)))))
/- wreckage/wreckageref19.Twin -/
namespace f18
def cuts : Nat → Nat → Option Outs := fun _ _ => none
def ccut : Nat → Nat → Option Outs := fun _ _ => none
def ety : Nat → Nat → Option Ty := fun c d => match c, d with
  | 0, 3 => some TRoutine
  | _, _ => none
def args : List PSh := [.c (.sl TRoutine .bor)]
def ta : List Ty := [(.sl TRoutine)]
def res : List (Bool × List CSh) := [(false, [.sl TRoutine .d])]
def tr : List Ty := [(.sl TRoutine)]
def E0 (N : Nat) : SEnv := SEnv.base tab cuts ccut ety
theorem ok0 (N : Nat) : EnvOK tab (E0 N) := base_ok tab cuts ccut ety
end f18
def F18 (N : Nat) (x : List (Routine)) : Option (List (Routine)) := fnRun (f18.E0 N) fuelW 18 f18.args f18.ta f18.res f18.tr 1 x
open f18 in
theorem F18_eq (N : Nat) (p0 : List (Routine)) : F18 N p0 =
  (chk (room (0 + p0.length) 48)
  (some ([] ++ p0))) := by kernel_rfl
def c18 (N : Nat) : Sym.Callee := ⟨f18.args, f18.ta, f18.res, f18.tr, 1, F18 N⟩
theorem ok18 (N : Nat) : CalOK tab 18 (c18 N) := fn_ok (f18.ok0 N) fuelW 18 f18.args f18.ta f18.res f18.tr 1

/- wreckage/routine.base -/
namespace f26
def cuts : Nat → Nat → Option Outs := fun _ _ => none
def ccut : Nat → Nat → Option Outs := fun _ _ => none
def ety : Nat → Nat → Option Ty := fun _ _ => none
def args : List PSh := [.c (.int .i64)]
def ta : List Ty := [(.int .i64)]
def res : List (Bool × List CSh) := [(false, [.int .u64])]
def tr : List Ty := [(.int .u64)]
def E0 (N : Nat) : SEnv := SEnv.base tab cuts ccut ety
theorem ok0 (N : Nat) : EnvOK tab (E0 N) := base_ok tab cuts ccut ety
end f26
def F26 (N : Nat) (x : Int) : Option (Int) := fnRun (f26.E0 N) fuelW 26 f26.args f26.ta f26.res f26.tr 0 x
open f26 in
theorem F26_eq (N : Nat) (p0 : Int) : F26 N p0 =
  some (wu64 ((16777216 : Int) * (wu64 (wi64 (p0 + (1 : Int)))))) := by kernel_rfl
def c26 (N : Nat) : Sym.Callee := ⟨f26.args, f26.ta, f26.res, f26.tr, 0, F26 N⟩
theorem ok26 (N : Nat) : CalOK tab 26 (c26 N) := fn_ok (f26.ok0 N) fuelW 26 f26.args f26.ta f26.res f26.tr 0

/- wreckage/routine.coded -/
namespace f25
def cuts : Nat → Nat → Option Outs := fun _ _ => none
def ccut : Nat → Nat → Option Outs := fun _ _ => none
def ety : Nat → Nat → Option Ty := fun _ _ => none
def args : List PSh := [.c (.int .u64)]
def ta : List Ty := [(.int .u64)]
def res : List (Bool × List CSh) := [(false, [.bool])]
def tr : List Ty := [.bool]
def E0 (N : Nat) : SEnv := SEnv.base tab cuts ccut ety
theorem ok0 (N : Nat) : EnvOK tab (E0 N) := base_ok tab cuts ccut ety
end f25
def F25 (N : Nat) (x : Int) : Option (Bool) := fnRun (f25.E0 N) fuelW 25 f25.args f25.ta f25.res f25.tr 0 x
open f25 in
theorem F25_eq (N : Nat) (p0 : Int) : F25 N p0 =
  (bif (decide (p0 ≥ (256 : Int)))
  then some (decide (p0 < (8448 : Int)))
  else some false) := by kernel_rfl
def c25 (N : Nat) : Sym.Callee := ⟨f25.args, f25.ta, f25.res, f25.tr, 0, F25 N⟩
theorem ok25 (N : Nat) : CalOK tab 25 (c25 N) := fn_ok (f25.ok0 N) fuelW 25 f25.args f25.ta f25.res f25.tr 0

/- wreckage/routine.high -/
namespace f39
def cuts : Nat → Nat → Option Outs := fun _ _ => none
def ccut : Nat → Nat → Option Outs := fun _ _ => none
def ety : Nat → Nat → Option Ty := fun _ _ => none
def args : List PSh := [.c (.int .u64)]
def ta : List Ty := [(.int .u64)]
def res : List (Bool × List CSh) := [(false, [.bool])]
def tr : List Ty := [.bool]
def E0 (N : Nat) : SEnv := SEnv.base tab cuts ccut ety
theorem ok0 (N : Nat) : EnvOK tab (E0 N) := base_ok tab cuts ccut ety
end f39
def F39 (N : Nat) (x : Int) : Option (Bool) := fnRun (f39.E0 N) fuelW 39 f39.args f39.ta f39.res f39.tr 0 x
open f39 in
theorem F39_eq (N : Nat) (p0 : Int) : F39 N p0 =
  (bif (p0 == (0 : Int))
  then some true
  else (bif ((Int.tmod p0 (8 : Int)) == (0 : Int))
    then some (decide (p0 ≥ (65536 : Int)))
    else some false)) := by kernel_rfl
def c39 (N : Nat) : Sym.Callee := ⟨f39.args, f39.ta, f39.res, f39.tr, 0, F39 N⟩
theorem ok39 (N : Nat) : CalOK tab 39 (c39 N) := fn_ok (f39.ok0 N) fuelW 39 f39.args f39.ta f39.res f39.tr 0

/- wreckage/routine.valid -/
namespace f30
def cuts : Nat → Nat → Option Outs := fun _ _ => none
def ccut : Nat → Nat → Option Outs := fun _ _ => none
def ety : Nat → Nat → Option Ty := fun _ _ => none
def args : List PSh := [.c (.int .i64), .agg [.int .u8, .int .u64, .int .u64, .int .u64, .int .u64, .int .i64]]
def ta : List Ty := [(.int .i64), (.int .u8), (.int .u64), (.int .u64), (.int .u64), (.int .u64), (.int .i64)]
def res : List (Bool × List CSh) := [(false, [.bool])]
def tr : List Ty := [.bool]
def E0 (N : Nat) : SEnv := (((SEnv.base tab cuts ccut ety).addCal 26 (c26 N)).addCal 25 (c25 N)).addCal 39 (c39 N)
theorem ok0 (N : Nat) : EnvOK tab (E0 N) := (((base_ok tab cuts ccut ety).addCal (ok26 N)).addCal (ok25 N)).addCal (ok39 N)
end f30
def F30 (N : Nat) (x : (Int) × (Int) × (Int) × (Int) × (Int) × (Int) × Int) : Option (Bool) := fnRun (f30.E0 N) fuelW 30 f30.args f30.ta f30.res f30.tr 0 x
open f30 in
theorem F30_eq (N : Nat) (p0 : Int) (p1 : Int) (p2 : Int) (p3 : Int) (p4 : Int) (p5 : Int) (p6 : Int) : F30 N (p0, p1, p2, p3, p4, p5, p6) =
  (bif (p1 == (3 : Int))
  then (Option.bind (F26 N p0) fun y0 =>
    some (p1 == (3 : Int) && (p2 == (0 : Int) && (p3 == y0 && (p4 == (0 : Int) && (p5 == (0 : Int) && (p6 == (0 : Int) && true)))))))
  else (Option.bind (F26 N p0) fun y1 =>
    (Option.bind (F26 N p0) fun y2 =>
    (bif (decide (p3 < y2))
    then some false
    else (bif (decide ((wu64 (p3 - y1)) < (24 : Int)))
      then some false
      else (bif (decide ((wu64 (p3 - y1)) > (4096 : Int)))
        then some false
        else (bif ((Int.tmod (wu64 (p3 - y1)) (8 : Int)) != (0 : Int))
          then some false
          else (bif (p1 == (2 : Int))
            then (Option.bind (F25 N p2) fun y3 =>
              (bif y3
              then (Option.bind (F39 N p4) fun y4 =>
                (bif y4
                then (Option.bind (F39 N p5) fun y5 =>
                  some y5)
                else some false))
              else some false))
            else (bif (p1 == (1 : Int))
              then (bif (p6 == (0 : Int))
                then (Option.bind (F25 N p2) fun y6 =>
                  (bif y6
                  then (Option.bind (F39 N p4) fun y7 =>
                    (bif y7
                    then (Option.bind (F39 N p5) fun y8 =>
                      some y8)
                    else some false))
                  else some false))
                else some false)
              else some false))))))))) := by kernel_rfl
def c30 (N : Nat) : Sym.Callee := ⟨f30.args, f30.ta, f30.res, f30.tr, 0, F30 N⟩
theorem ok30 (N : Nat) : CalOK tab 30 (c30 N) := fn_ok (f30.ok0 N) fuelW 30 f30.args f30.ta f30.res f30.tr 0

/- wreckage/routine.Check -/
namespace f13
def cuts : Nat → Nat → Option Outs := fun _ _ => none
def ccut : Nat → Nat → Option Outs := fun _ _ => none
def ety : Nat → Nat → Option Ty := fun _ _ => none
def args : List PSh := [.c (.sl TRoutine .bor)]
def ta : List Ty := [(.sl TRoutine)]
def res : List (Bool × List CSh) := [(false, [.int .i64])]
def tr : List Ty := [(.int .i64)]
def E0 (N : Nat) : SEnv := (SEnv.base tab cuts ccut ety).addCal 30 (c30 N)
theorem ok0 (N : Nat) : EnvOK tab (E0 N) := (base_ok tab cuts ccut ety).addCal (ok30 N)
def T0_6 : Tmpl := ⟨[(13, .c (.sl TRoutine .bor)), (14, .c (.int .i64)), (15, .c (.int .i64))], [], [], 1, [], 0, [(.sl TRoutine), (.int .i64), (.int .i64)]⟩
def O0_6 : Outs := [(.ret, ⟨[(2, .c (.int .i64))], [], [], 1, [], 0, [(.int .i64)]⟩), (.exit 0, ⟨[], [], [], 1, [], 0, []⟩)]
def L0_6 (N : Nat) (k : Nat) (x : (List (Routine)) × (Int) × Int) : Option ((Int) ⊕ (Unit)) := loopF (loopStep (E0 N) fuelW 0 6 (bodyAt t13 6) T0_6 O0_6) k x
theorem L0_6_succ (N : Nat) (k : Nat) (v0 : List (Routine)) (v1 : Int) (v2 : Int) : L0_6 N (k + 1) (v0, v1, v2) =
  (bif (decide (v2 < v1))
  then (Option.bind (idx v0 v2) fun x3 =>
    (Option.bind (F30 N (v2, x3.1, x3.2.1, x3.2.2.1, x3.2.2.2.1, x3.2.2.2.2.1, x3.2.2.2.2.2)) fun y4 =>
    (bif (!y4)
    then some (.inl (8 : Int))
    else L0_6 N k (v0, v1, (wi64 (v2 + (1 : Int)))))))
  else some (.inr ())) := by kernel_rfl
def E1 (N : Nat) : SEnv := (E0 N).addLoop N 0 6 T0_6 O0_6
theorem ok1 (N : Nat) : EnvOK tab (E1 N) := (ok0 N).addLoop N 0 6 T0_6 O0_6
end f13
def F13 (N : Nat) (x : List (Routine)) : Option (Int) := fnRun (f13.E1 N) fuelW 13 f13.args f13.ta f13.res f13.tr 0 x
open f13 in
theorem F13_eq (N : Nat) (p0 : List (Routine)) : F13 N p0 =
  (bif (decide ((p0.length : Int) < (1 : Int)))
  then some (8 : Int)
  else (bif (decide ((p0.length : Int) > (16 : Int)))
    then some (8 : Int)
    else (Option.bind (L0_6 N N (p0, (p0.length : Int), (0 : Int))) fun y5 =>
      (match y5 with
      | .inl a6 => some a6
      | .inr b7 => some (0 : Int))))) := by kernel_rfl
def c13 (N : Nat) : Sym.Callee := ⟨f13.args, f13.ta, f13.res, f13.tr, 0, F13 N⟩
theorem ok13 (N : Nat) : CalOK tab 13 (c13 N) := fn_ok (f13.ok1 N) fuelW 13 f13.args f13.ta f13.res f13.tr 0

/- wreckage/routine.numbered -/
namespace f36
def cuts : Nat → Nat → Option Outs := fun _ _ => none
def ccut : Nat → Nat → Option Outs := fun _ _ => none
def ety : Nat → Nat → Option Ty := fun _ _ => none
def args : List PSh := [.c (.sl TRoutine .bor), .c (.int .i64)]
def ta : List Ty := [(.sl TRoutine), (.int .i64)]
def res : List (Bool × List CSh) := [(false, [.int .i64])]
def tr : List Ty := [(.int .i64)]
def E0 (N : Nat) : SEnv := (SEnv.base tab cuts ccut ety).addCal 13 (c13 N)
theorem ok0 (N : Nat) : EnvOK tab (E0 N) := (base_ok tab cuts ccut ety).addCal (ok13 N)
end f36
def F36 (N : Nat) (x : (List (Routine)) × Int) : Option (Int) := fnRun (f36.E0 N) fuelW 36 f36.args f36.ta f36.res f36.tr 0 x
open f36 in
theorem F36_eq (N : Nat) (p0 : List (Routine)) (p1 : Int) : F36 N (p0, p1) =
  (Option.bind (F13 N p0) fun y0 =>
  (bif (y0 != (0 : Int))
  then some y0
  else (bif (decide (p1 < (0 : Int)))
    then some (2 : Int)
    else (bif (decide (p1 ≥ (p0.length : Int)))
      then some (2 : Int)
      else some (0 : Int))))) := by kernel_rfl
def c36 (N : Nat) : Sym.Callee := ⟨f36.args, f36.ta, f36.res, f36.tr, 0, F36 N⟩
theorem ok36 (N : Nat) : CalOK tab 36 (c36 N) := fn_ok (f36.ok0 N) fuelW 36 f36.args f36.ta f36.res f36.tr 0

/- wreckage/routine.Block -/
namespace f19
def cuts : Nat → Nat → Option Outs := fun _ _ => none
def ccut : Nat → Nat → Option Outs := fun _ _ => none
def ety : Nat → Nat → Option Ty := fun _ _ => none
def args : List PSh := [.c (.sl TRoutine .bor), .c (.int .i64), .c (.int .i64)]
def ta : List Ty := [(.sl TRoutine), (.int .i64), (.int .i64)]
def res : List (Bool × List CSh) := [(false, [.sl TRoutine .d]), (false, [.int .i64])]
def tr : List Ty := [(.sl TRoutine), (.int .i64)]
def E0 (N : Nat) : SEnv := (SEnv.base tab cuts ccut ety).addCal 36 (c36 N)
theorem ok0 (N : Nat) : EnvOK tab (E0 N) := (base_ok tab cuts ccut ety).addCal (ok36 N)
end f19
def F19 (N : Nat) (x : (List (Routine)) × (Int) × Int) : Option ((List (Routine)) × Int) := fnRun (f19.E0 N) fuelW 19 f19.args f19.ta f19.res f19.tr 0 x
open f19 in
theorem F19_eq (N : Nat) (p0 : List (Routine)) (p1 : Int) (p2 : Int) : F19 N (p0, p1, p2) =
  (Option.bind (F36 N (p0, p1)) fun y0 =>
  (bif (y0 != (0 : Int))
  then some ([], y0)
  else (Option.bind (idx p0 p1) fun x1 =>
    (bif (x1.1 != (1 : Int))
    then some ([], (36 : Int))
    else (chk (room p0.length 48)
      ((chk (inR p1 p0.length)
      ((Option.bind (p0[(Int.toNat p1)]?) fun x2 =>
      (chk (inR p1 (p0.set (Int.toNat p1) ((2 : Int), x2.2)).length)
      ((Option.bind ((p0.set (Int.toNat p1) ((2 : Int), x2.2))[(Int.toNat p1)]?) fun x3 =>
      some (((p0.set (Int.toNat p1) ((2 : Int), x2.2)).set (Int.toNat p1) (x3.1, x3.2.1, x3.2.2.1, x3.2.2.2.1, x3.2.2.2.2.1, p2)), (0 : Int)))))))))))))) := by kernel_rfl
def c19 (N : Nat) : Sym.Callee := ⟨f19.args, f19.ta, f19.res, f19.tr, 0, F19 N⟩
theorem ok19 (N : Nat) : CalOK tab 19 (c19 N) := fn_ok (f19.ok0 N) fuelW 19 f19.args f19.ta f19.res f19.tr 0

/- wreckage/wreckageref19.Base -/
namespace f28
def cuts : Nat → Nat → Option Outs := fun _ _ => none
def ccut : Nat → Nat → Option Outs := fun _ _ => none
def ety : Nat → Nat → Option Ty := fun _ _ => none
def args : List PSh := [.c (.int .i64)]
def ta : List Ty := [(.int .i64)]
def res : List (Bool × List CSh) := [(false, [.int .u64])]
def tr : List Ty := [(.int .u64)]
def E0 (N : Nat) : SEnv := SEnv.base tab cuts ccut ety
theorem ok0 (N : Nat) : EnvOK tab (E0 N) := base_ok tab cuts ccut ety
end f28
def F28 (N : Nat) (x : Int) : Option (Int) := fnRun (f28.E0 N) fuelW 28 f28.args f28.ta f28.res f28.tr 0 x
open f28 in
theorem F28_eq (N : Nat) (p0 : Int) : F28 N p0 =
  some (wu64 (wi64 ((16777216 : Int) * (wi64 (p0 + (1 : Int)))))) := by kernel_rfl
def c28 (N : Nat) : Sym.Callee := ⟨f28.args, f28.ta, f28.res, f28.tr, 0, F28 N⟩
theorem ok28 (N : Nat) : CalOK tab 28 (c28 N) := fn_ok (f28.ok0 N) fuelW 28 f28.args f28.ta f28.res f28.tr 0

/- wreckage/wreckageref19.Code -/
namespace f27
def cuts : Nat → Nat → Option Outs := fun _ _ => none
def ccut : Nat → Nat → Option Outs := fun _ _ => none
def ety : Nat → Nat → Option Ty := fun _ _ => none
def args : List PSh := [.c (.int .u64)]
def ta : List Ty := [(.int .u64)]
def res : List (Bool × List CSh) := [(false, [.bool])]
def tr : List Ty := [.bool]
def E0 (N : Nat) : SEnv := SEnv.base tab cuts ccut ety
theorem ok0 (N : Nat) : EnvOK tab (E0 N) := base_ok tab cuts ccut ety
end f27
def F27 (N : Nat) (x : Int) : Option (Bool) := fnRun (f27.E0 N) fuelW 27 f27.args f27.ta f27.res f27.tr 0 x
open f27 in
theorem F27_eq (N : Nat) (p0 : Int) : F27 N p0 =
  (bif (decide ((wu64 (Int.tdiv p0 (256 : Int))) ≥ (1 : Int)))
  then some (decide ((wu64 (Int.tdiv p0 (256 : Int))) ≤ (32 : Int)))
  else some false) := by kernel_rfl
def c27 (N : Nat) : Sym.Callee := ⟨f27.args, f27.ta, f27.res, f27.tr, 0, F27 N⟩
theorem ok27 (N : Nat) : CalOK tab 27 (c27 N) := fn_ok (f27.ok0 N) fuelW 27 f27.args f27.ta f27.res f27.tr 0

/- wreckage/wreckageref19.record -/
namespace f40
def cuts : Nat → Nat → Option Outs := fun _ _ => none
def ccut : Nat → Nat → Option Outs := fun _ _ => none
def ety : Nat → Nat → Option Ty := fun _ _ => none
def args : List PSh := [.c (.int .u64)]
def ta : List Ty := [(.int .u64)]
def res : List (Bool × List CSh) := [(false, [.bool])]
def tr : List Ty := [.bool]
def E0 (N : Nat) : SEnv := SEnv.base tab cuts ccut ety
theorem ok0 (N : Nat) : EnvOK tab (E0 N) := base_ok tab cuts ccut ety
end f40
def F40 (N : Nat) (x : Int) : Option (Bool) := fnRun (f40.E0 N) fuelW 40 f40.args f40.ta f40.res f40.tr 0 x
open f40 in
theorem F40_eq (N : Nat) (p0 : Int) : F40 N p0 =
  (bif (p0 == (0 : Int))
  then some true
  else (bif (decide (p0 ≥ (65536 : Int)))
    then some ((Int.tmod p0 (8 : Int)) == (0 : Int))
    else some false)) := by kernel_rfl
def c40 (N : Nat) : Sym.Callee := ⟨f40.args, f40.ta, f40.res, f40.tr, 0, F40 N⟩
theorem ok40 (N : Nat) : CalOK tab 40 (c40 N) := fn_ok (f40.ok0 N) fuelW 40 f40.args f40.ta f40.res f40.tr 0

/- wreckage/wreckageref19.Valid -/
namespace f31
def cuts : Nat → Nat → Option Outs := fun _ _ => none
def ccut : Nat → Nat → Option Outs := fun _ _ => none
def ety : Nat → Nat → Option Ty := fun _ _ => none
def args : List PSh := [.c (.int .i64), .agg [.int .u8, .int .u64, .int .u64, .int .u64, .int .u64, .int .i64]]
def ta : List Ty := [(.int .i64), (.int .u8), (.int .u64), (.int .u64), (.int .u64), (.int .u64), (.int .i64)]
def res : List (Bool × List CSh) := [(false, [.bool])]
def tr : List Ty := [.bool]
def E0 (N : Nat) : SEnv := (((SEnv.base tab cuts ccut ety).addCal 27 (c27 N)).addCal 28 (c28 N)).addCal 40 (c40 N)
theorem ok0 (N : Nat) : EnvOK tab (E0 N) := (((base_ok tab cuts ccut ety).addCal (ok27 N)).addCal (ok28 N)).addCal (ok40 N)
end f31
def F31 (N : Nat) (x : (Int) × (Int) × (Int) × (Int) × (Int) × (Int) × Int) : Option (Bool) := fnRun (f31.E0 N) fuelW 31 f31.args f31.ta f31.res f31.tr 0 x
open f31 in
theorem F31_eq (N : Nat) (p0 : Int) (p1 : Int) (p2 : Int) (p3 : Int) (p4 : Int) (p5 : Int) (p6 : Int) : F31 N (p0, p1, p2, p3, p4, p5, p6) =
  (bif (p1 == (1 : Int))
  then (bif (p6 != (0 : Int))
    then some false
    else (Option.bind (F27 N p2) fun y0 =>
      (bif y0
      then (Option.bind (F28 N p0) fun y1 =>
        (bif (decide (p3 ≥ (wu64 (y1 + (24 : Int)))))
        then (Option.bind (F28 N p0) fun y2 =>
          (bif (decide (p3 ≤ (wu64 (y2 + (4096 : Int)))))
          then (bif ((Int.tmod p3 (8 : Int)) == (0 : Int))
            then (Option.bind (F40 N p4) fun y3 =>
              (bif y3
              then (Option.bind (F40 N p5) fun y4 =>
                some y4)
              else some false))
            else some false)
          else some false))
        else some false))
      else some false)))
  else (bif (p1 == (2 : Int))
    then (Option.bind (F27 N p2) fun y5 =>
      (bif y5
      then (Option.bind (F28 N p0) fun y6 =>
        (bif (decide (p3 ≥ (wu64 (y6 + (24 : Int)))))
        then (Option.bind (F28 N p0) fun y7 =>
          (bif (decide (p3 ≤ (wu64 (y7 + (4096 : Int)))))
          then (bif ((Int.tmod p3 (8 : Int)) == (0 : Int))
            then (Option.bind (F40 N p4) fun y8 =>
              (bif y8
              then (Option.bind (F40 N p5) fun y9 =>
                some y9)
              else some false))
            else some false)
          else some false))
        else some false))
      else some false))
    else (bif (p1 == (3 : Int))
      then (bif (p2 == (0 : Int))
        then (Option.bind (F28 N p0) fun y10 =>
          (bif (p3 == y10)
          then (bif (p4 == (0 : Int))
            then (bif (p5 == (0 : Int))
              then some (p6 == (0 : Int))
              else some false)
            else some false)
          else some false))
        else some false)
      else some false))) := by kernel_rfl
def c31 (N : Nat) : Sym.Callee := ⟨f31.args, f31.ta, f31.res, f31.tr, 0, F31 N⟩
theorem ok31 (N : Nat) : CalOK tab 31 (c31 N) := fn_ok (f31.ok0 N) fuelW 31 f31.args f31.ta f31.res f31.tr 0

/- wreckage/wreckageref19.Check -/
namespace f14
def cuts : Nat → Nat → Option Outs := fun _ _ => none
def ccut : Nat → Nat → Option Outs := fun _ _ => none
def ety : Nat → Nat → Option Ty := fun _ _ => none
def args : List PSh := [.c (.sl TRoutine .bor)]
def ta : List Ty := [(.sl TRoutine)]
def res : List (Bool × List CSh) := [(false, [.int .i64])]
def tr : List Ty := [(.int .i64)]
def E0 (N : Nat) : SEnv := (SEnv.base tab cuts ccut ety).addCal 31 (c31 N)
theorem ok0 (N : Nat) : EnvOK tab (E0 N) := (base_ok tab cuts ccut ety).addCal (ok31 N)
def T0_6 : Tmpl := ⟨[(0, .c (.sl TRoutine .bor)), (3, .c (.int .i64))], [], [], 1, [], 0, [(.sl TRoutine), (.int .i64)]⟩
def O0_6 : Outs := [(.ret, ⟨[(2, .c (.int .i64))], [], [], 1, [], 0, [(.int .i64)]⟩), (.exit 0, ⟨[], [], [], 1, [], 0, []⟩)]
def L0_6 (N : Nat) (k : Nat) (x : (List (Routine)) × Int) : Option ((Int) ⊕ (Unit)) := loopF (loopStep (E0 N) fuelW 0 6 (bodyAt t14 6) T0_6 O0_6) k x
theorem L0_6_succ (N : Nat) (k : Nat) (v0 : List (Routine)) (v1 : Int) : L0_6 N (k + 1) (v0, v1) =
  (bif (decide (v1 < (v0.length : Int)))
  then (Option.bind (idx v0 v1) fun x2 =>
    (Option.bind (F31 N (v1, x2.1, x2.2.1, x2.2.2.1, x2.2.2.2.1, x2.2.2.2.2.1, x2.2.2.2.2.2)) fun y3 =>
    (bif (!y3)
    then some (.inl (8 : Int))
    else L0_6 N k (v0, (wi64 (v1 + (1 : Int)))))))
  else some (.inr ())) := by kernel_rfl
def E1 (N : Nat) : SEnv := (E0 N).addLoop N 0 6 T0_6 O0_6
theorem ok1 (N : Nat) : EnvOK tab (E1 N) := (ok0 N).addLoop N 0 6 T0_6 O0_6
end f14
def F14 (N : Nat) (x : List (Routine)) : Option (Int) := fnRun (f14.E1 N) fuelW 14 f14.args f14.ta f14.res f14.tr 0 x
open f14 in
theorem F14_eq (N : Nat) (p0 : List (Routine)) : F14 N p0 =
  (bif ((p0.length : Int) == (0 : Int))
  then some (8 : Int)
  else (bif (decide ((p0.length : Int) > (16 : Int)))
    then some (8 : Int)
    else (Option.bind (L0_6 N N (p0, (0 : Int))) fun y4 =>
      (match y4 with
      | .inl a5 => some a5
      | .inr b6 => some (0 : Int))))) := by kernel_rfl
def c14 (N : Nat) : Sym.Callee := ⟨f14.args, f14.ta, f14.res, f14.tr, 0, F14 N⟩
theorem ok14 (N : Nat) : CalOK tab 14 (c14 N) := fn_ok (f14.ok1 N) fuelW 14 f14.args f14.ta f14.res f14.tr 0

/- wreckage/wreckageref19.asked -/
namespace f37
def cuts : Nat → Nat → Option Outs := fun _ _ => none
def ccut : Nat → Nat → Option Outs := fun _ _ => none
def ety : Nat → Nat → Option Ty := fun _ _ => none
def args : List PSh := [.c (.sl TRoutine .bor), .c (.int .i64)]
def ta : List Ty := [(.sl TRoutine), (.int .i64)]
def res : List (Bool × List CSh) := [(false, [.int .i64])]
def tr : List Ty := [(.int .i64)]
def E0 (N : Nat) : SEnv := (SEnv.base tab cuts ccut ety).addCal 14 (c14 N)
theorem ok0 (N : Nat) : EnvOK tab (E0 N) := (base_ok tab cuts ccut ety).addCal (ok14 N)
end f37
def F37 (N : Nat) (x : (List (Routine)) × Int) : Option (Int) := fnRun (f37.E0 N) fuelW 37 f37.args f37.ta f37.res f37.tr 0 x
open f37 in
theorem F37_eq (N : Nat) (p0 : List (Routine)) (p1 : Int) : F37 N (p0, p1) =
  (Option.bind (F14 N p0) fun y0 =>
  (bif (y0 != (0 : Int))
  then (Option.bind (F14 N p0) fun y1 =>
    some y1)
  else (bif (decide (p1 < (0 : Int)))
    then some (2 : Int)
    else (bif (decide (p1 ≥ (p0.length : Int)))
      then some (2 : Int)
      else some (0 : Int))))) := by kernel_rfl
def c37 (N : Nat) : Sym.Callee := ⟨f37.args, f37.ta, f37.res, f37.tr, 0, F37 N⟩
theorem ok37 (N : Nat) : CalOK tab 37 (c37 N) := fn_ok (f37.ok0 N) fuelW 37 f37.args f37.ta f37.res f37.tr 0

/- wreckage/wreckageref19.Block -/
namespace f20
def cuts : Nat → Nat → Option Outs := fun _ _ => none
def ccut : Nat → Nat → Option Outs := fun _ _ => none
def ety : Nat → Nat → Option Ty := fun _ _ => none
def args : List PSh := [.c (.sl TRoutine .bor), .c (.int .i64), .c (.int .i64)]
def ta : List Ty := [(.sl TRoutine), (.int .i64), (.int .i64)]
def res : List (Bool × List CSh) := [(false, [.sl TRoutine .d]), (false, [.int .i64])]
def tr : List Ty := [(.sl TRoutine), (.int .i64)]
def E0 (N : Nat) : SEnv := ((SEnv.base tab cuts ccut ety).addCal 37 (c37 N)).addCal 18 (c18 N)
theorem ok0 (N : Nat) : EnvOK tab (E0 N) := ((base_ok tab cuts ccut ety).addCal (ok37 N)).addCal (ok18 N)
end f20
def F20 (N : Nat) (x : (List (Routine)) × (Int) × Int) : Option ((List (Routine)) × Int) := fnRun (f20.E0 N) fuelW 20 f20.args f20.ta f20.res f20.tr 0 x
open f20 in
theorem F20_eq (N : Nat) (p0 : List (Routine)) (p1 : Int) (p2 : Int) : F20 N (p0, p1, p2) =
  (Option.bind (F37 N (p0, p1)) fun y0 =>
  (bif (y0 != (0 : Int))
  then (Option.bind (F37 N (p0, p1)) fun y1 =>
    some ([], y1))
  else (Option.bind (idx p0 p1) fun x2 =>
    (bif (x2.1 != (1 : Int))
    then some ([], (36 : Int))
    else (Option.bind (F18 N p0) fun y3 =>
      (chk (inR p1 y3.length)
      ((Option.bind (y3[(Int.toNat p1)]?) fun x4 =>
      (chk (inR p1 (y3.set (Int.toNat p1) ((2 : Int), x4.2)).length)
      ((Option.bind ((y3.set (Int.toNat p1) ((2 : Int), x4.2))[(Int.toNat p1)]?) fun x5 =>
      some (((y3.set (Int.toNat p1) ((2 : Int), x4.2)).set (Int.toNat p1) (x5.1, x5.2.1, x5.2.2.1, x5.2.2.2.1, x5.2.2.2.2.1, p2)), (0 : Int))))))))))))) := by kernel_rfl
def c20 (N : Nat) : Sym.Callee := ⟨f20.args, f20.ta, f20.res, f20.tr, 0, F20 N⟩
theorem ok20 (N : Nat) : CalOK tab 20 (c20 N) := fn_ok (f20.ok0 N) fuelW 20 f20.args f20.ta f20.res f20.tr 0

/- wreckage/routine.Wake -/
namespace f17
def cuts : Nat → Nat → Option Outs := fun _ _ => none
def ccut : Nat → Nat → Option Outs := fun _ _ => none
def ety : Nat → Nat → Option Ty := fun _ _ => none
def args : List PSh := [.c (.sl TRoutine .bor), .c (.int .i64)]
def ta : List Ty := [(.sl TRoutine), (.int .i64)]
def res : List (Bool × List CSh) := [(false, [.sl TRoutine .d]), (false, [.int .i64]), (false, [.int .i64])]
def tr : List Ty := [(.sl TRoutine), (.int .i64), (.int .i64)]
def E0 (N : Nat) : SEnv := (SEnv.base tab cuts ccut ety).addCal 13 (c13 N)
theorem ok0 (N : Nat) : EnvOK tab (E0 N) := (base_ok tab cuts ccut ety).addCal (ok13 N)
def T1019000_3 : Tmpl := ⟨[(0, .c (.ref 0 16 0 TRoutine)), (1, .clo 35 [.ptr 0 3 1 0 0]), (7, .c (.int .i64)), (8, .c (.int .i64))], [[(8, .c (.ref 0 16 0 TRoutine))]], [(0, 16, .row 0 TRoutine), (0, 3, .box 1 [.int .i64])], 2, [], 2, [(.int .i64), (.int .i64), (.sl TRoutine), (.int .i64)]⟩
def O1019000_3 : Outs := [(.ret, ⟨[(4, .c (.int .i64))], [[(8, .c (.ref 0 16 0 TRoutine))]], [(0, 16, .row 0 TRoutine)], 2, [], 1, [(.int .i64), (.sl TRoutine)]⟩), (.exit 0, ⟨[], [[(8, .c (.ref 0 16 0 TRoutine))]], [(0, 16, .row 0 TRoutine)], 2, [], 1, [(.sl TRoutine)]⟩)]
def L1019000_3 (N : Nat) (k : Nat) (x : (Int) × (Int) × (List (Routine)) × Int) : Option (((Int) × List (Routine)) ⊕ (List (Routine))) := loopF (loopStep (E0 N) fuelW 1019000 3 (bodyAt t34 3) T1019000_3 O1019000_3) k x
theorem L1019000_3_succ (N : Nat) (k : Nat) (v1 : Int) (v2 : Int) (v3 : List (Routine)) (v4 : Int) : L1019000_3 N (k + 1) (v1, v2, v3, v4) =
  (bif (decide (v2 < v1))
  then (chk (inR v2 v3.length)
    ((Option.bind (v3[(Int.toNat v2)]?) fun x5 =>
    (bif (x5.1 == (2 : Int))
    then (bif (x5.2.2.2.2.2 == v4)
      then some (.inl (v2, v3))
      else L1019000_3 N k (v1, (wi64 (v2 + (1 : Int))), v3, v4))
    else L1019000_3 N k (v1, (wi64 (v2 + (1 : Int))), v3, v4)))))
  else some (.inr v3)) := by kernel_rfl
def E1 (N : Nat) : SEnv := (E0 N).addLoop N 1019000 3 T1019000_3 O1019000_3
theorem ok1 (N : Nat) : EnvOK tab (E1 N) := (ok0 N).addLoop N 1019000 3 T1019000_3 O1019000_3
end f17
def F17 (N : Nat) (x : (List (Routine)) × Int) : Option ((List (Routine)) × (Int) × Int) := fnRun (f17.E1 N) fuelW 17 f17.args f17.ta f17.res f17.tr 0 x
open f17 in
theorem F17_eq (N : Nat) (p0 : List (Routine)) (p1 : Int) : F17 N (p0, p1) =
  (Option.bind (F13 N p0) fun y0 =>
  (bif (y0 != (0 : Int))
  then some ([], (0 : Int), y0)
  else (chk (room p0.length 48)
    ((Option.bind (L1019000_3 N N ((p0.length : Int), (0 : Int), p0, p1)) fun y6 =>
    (match y6 with
    | .inl a7 => (bif (decide (a7.1 ≥ (0 : Int)))
      then (chk (inR a7.1 a7.2.length)
        ((Option.bind (a7.2[(Int.toNat a7.1)]?) fun x9 =>
        (chk (inR a7.1 (a7.2.set (Int.toNat a7.1) ((1 : Int), x9.2)).length)
        ((Option.bind ((a7.2.set (Int.toNat a7.1) ((1 : Int), x9.2))[(Int.toNat a7.1)]?) fun x10 =>
        some (((a7.2.set (Int.toNat a7.1) ((1 : Int), x9.2)).set (Int.toNat a7.1) (x10.1, x10.2.1, x10.2.2.1, x10.2.2.2.1, x10.2.2.2.2.1, (0 : Int))), a7.1, (0 : Int))))))))
      else some (a7.2, a7.1, (0 : Int)))
    | .inr b8 => some (b8, (-1 : Int), (0 : Int)))))))) := by kernel_rfl
def c17 (N : Nat) : Sym.Callee := ⟨f17.args, f17.ta, f17.res, f17.tr, 0, F17 N⟩
theorem ok17 (N : Nat) : CalOK tab 17 (c17 N) := fn_ok (f17.ok1 N) fuelW 17 f17.args f17.ta f17.res f17.tr 0

/- wreckage/wreckageref19.Woken -/
namespace f38
def cuts : Nat → Nat → Option Outs := fun _ _ => none
def ccut : Nat → Nat → Option Outs := fun _ _ => none
def ety : Nat → Nat → Option Ty := fun _ _ => none
def args : List PSh := [.c (.sl TRoutine .bor), .c (.int .i64)]
def ta : List Ty := [(.sl TRoutine), (.int .i64)]
def res : List (Bool × List CSh) := [(false, [.sl TRoutine .d]), (false, [.int .i64])]
def tr : List Ty := [(.sl TRoutine), (.int .i64)]
def E0 (N : Nat) : SEnv := (SEnv.base tab cuts ccut ety).addCal 18 (c18 N)
theorem ok0 (N : Nat) : EnvOK tab (E0 N) := (base_ok tab cuts ccut ety).addCal (ok18 N)
def T0_4 : Tmpl := ⟨[(1, .c (.int .i64)), (6, .c (.ref 0 9 0 TRoutine)), (7, .c (.int .i64))], [], [(0, 9, .row 0 TRoutine)], 1, [], 1, [(.int .i64), (.int .i64), (.sl TRoutine)]⟩
def O0_4 : Outs := [(.ret, ⟨[(4, .c (.ref 0 9 0 TRoutine)), (5, .c (.int .i64))], [], [(0, 9, .row 0 TRoutine)], 1, [], 1, [(.int .i64), (.sl TRoutine)]⟩), (.exit 0, ⟨[(6, .c (.ref 0 9 0 TRoutine))], [], [(0, 9, .row 0 TRoutine)], 1, [], 1, [(.sl TRoutine)]⟩)]
def L0_4 (N : Nat) (k : Nat) (x : (Int) × (Int) × List (Routine)) : Option (((Int) × List (Routine)) ⊕ (List (Routine))) := loopF (loopStep (E0 N) fuelW 0 4 (bodyAt t38 4) T0_4 O0_4) k x
theorem L0_4_succ (N : Nat) (k : Nat) (v1 : Int) (v2 : Int) (v3 : List (Routine)) : L0_4 N (k + 1) (v1, v2, v3) =
  (bif (decide (v2 < (v3.length : Int)))
  then (chk (inR v2 v3.length)
    ((Option.bind (v3[(Int.toNat v2)]?) fun x4 =>
    (bif (x4.1 == (2 : Int))
    then (chk (inR v2 v3.length)
      ((Option.bind (v3[(Int.toNat v2)]?) fun x5 =>
      (bif (x5.2.2.2.2.2 == v1)
      then (chk (inR v2 v3.length)
        ((Option.bind (v3[(Int.toNat v2)]?) fun x6 =>
        (chk (inR v2 (v3.set (Int.toNat v2) ((1 : Int), x6.2)).length)
        ((Option.bind ((v3.set (Int.toNat v2) ((1 : Int), x6.2))[(Int.toNat v2)]?) fun x7 =>
        some (.inl (v2, ((v3.set (Int.toNat v2) ((1 : Int), x6.2)).set (Int.toNat v2) (x7.1, x7.2.1, x7.2.2.1, x7.2.2.2.1, x7.2.2.2.2.1, (0 : Int)))))))))))
      else L0_4 N k (v1, (wi64 (v2 + (1 : Int))), v3)))))
    else L0_4 N k (v1, (wi64 (v2 + (1 : Int))), v3)))))
  else some (.inr v3)) := by kernel_rfl
def E1 (N : Nat) : SEnv := (E0 N).addLoop N 0 4 T0_4 O0_4
theorem ok1 (N : Nat) : EnvOK tab (E1 N) := (ok0 N).addLoop N 0 4 T0_4 O0_4
end f38
def F38 (N : Nat) (x : (List (Routine)) × Int) : Option ((List (Routine)) × Int) := fnRun (f38.E1 N) fuelW 38 f38.args f38.ta f38.res f38.tr 0 x
open f38 in
theorem F38_eq (N : Nat) (p0 : List (Routine)) (p1 : Int) : F38 N (p0, p1) =
  (Option.bind (F18 N p0) fun y0 =>
  (Option.bind (L0_4 N N (p1, (0 : Int), y0)) fun y8 =>
  (match y8 with
  | .inl a9 => some (a9.2, a9.1)
  | .inr b10 => some (b10, (-1 : Int))))) := by kernel_rfl
def c38 (N : Nat) : Sym.Callee := ⟨f38.args, f38.ta, f38.res, f38.tr, 0, F38 N⟩
theorem ok38 (N : Nat) : CalOK tab 38 (c38 N) := fn_ok (f38.ok1 N) fuelW 38 f38.args f38.ta f38.res f38.tr 0

/- wreckage/wreckageref19.Wake -/
namespace f21
def cuts : Nat → Nat → Option Outs := fun _ _ => none
def ccut : Nat → Nat → Option Outs := fun _ _ => none
def ety : Nat → Nat → Option Ty := fun _ _ => none
def args : List PSh := [.c (.sl TRoutine .bor), .c (.int .i64)]
def ta : List Ty := [(.sl TRoutine), (.int .i64)]
def res : List (Bool × List CSh) := [(false, [.sl TRoutine .d]), (false, [.int .i64]), (false, [.int .i64])]
def tr : List Ty := [(.sl TRoutine), (.int .i64), (.int .i64)]
def E0 (N : Nat) : SEnv := ((SEnv.base tab cuts ccut ety).addCal 14 (c14 N)).addCal 38 (c38 N)
theorem ok0 (N : Nat) : EnvOK tab (E0 N) := ((base_ok tab cuts ccut ety).addCal (ok14 N)).addCal (ok38 N)
end f21
def F21 (N : Nat) (x : (List (Routine)) × Int) : Option ((List (Routine)) × (Int) × Int) := fnRun (f21.E0 N) fuelW 21 f21.args f21.ta f21.res f21.tr 0 x
open f21 in
theorem F21_eq (N : Nat) (p0 : List (Routine)) (p1 : Int) : F21 N (p0, p1) =
  (Option.bind (F14 N p0) fun y0 =>
  (bif (y0 != (0 : Int))
  then (Option.bind (F14 N p0) fun y1 =>
    some ([], (0 : Int), y1))
  else (Option.bind (F38 N (p0, p1)) fun y2 =>
    some (y2.1, y2.2, (0 : Int))))) := by kernel_rfl
def c21 (N : Nat) : Sym.Callee := ⟨f21.args, f21.ta, f21.res, f21.tr, 0, F21 N⟩
theorem ok21 (N : Nat) : CalOK tab 21 (c21 N) := fn_ok (f21.ok0 N) fuelW 21 f21.args f21.ta f21.res f21.tr 0

/- wreckage/routine.End -/
namespace f22
def cuts : Nat → Nat → Option Outs := fun _ _ => none
def ccut : Nat → Nat → Option Outs := fun _ _ => none
def ety : Nat → Nat → Option Ty := fun _ _ => none
def args : List PSh := [.c (.sl TRoutine .bor), .c (.int .i64)]
def ta : List Ty := [(.sl TRoutine), (.int .i64)]
def res : List (Bool × List CSh) := [(false, [.sl TRoutine .d]), (false, [.int .i64])]
def tr : List Ty := [(.sl TRoutine), (.int .i64)]
def E0 (N : Nat) : SEnv := ((SEnv.base tab cuts ccut ety).addCal 36 (c36 N)).addCal 26 (c26 N)
theorem ok0 (N : Nat) : EnvOK tab (E0 N) := ((base_ok tab cuts ccut ety).addCal (ok36 N)).addCal (ok26 N)
end f22
def F22 (N : Nat) (x : (List (Routine)) × Int) : Option ((List (Routine)) × Int) := fnRun (f22.E0 N) fuelW 22 f22.args f22.ta f22.res f22.tr 0 x
open f22 in
theorem F22_eq (N : Nat) (p0 : List (Routine)) (p1 : Int) : F22 N (p0, p1) =
  (Option.bind (F36 N (p0, p1)) fun y0 =>
  (bif (y0 != (0 : Int))
  then some ([], y0)
  else (Option.bind (idx p0 p1) fun x1 =>
    (bif (x1.1 == (3 : Int))
    then some ([], (36 : Int))
    else (chk (room p0.length 48)
      ((Option.bind (F26 N p1) fun y2 =>
      (chk (inR p1 p0.length)
      ((Option.bind (p0[(Int.toNat p1)]?) fun x3 =>
      some ((p0.set (Int.toNat p1) ((3 : Int), (0 : Int), y2, (0 : Int), (0 : Int), (0 : Int))), (0 : Int)))))))))))) := by kernel_rfl
def c22 (N : Nat) : Sym.Callee := ⟨f22.args, f22.ta, f22.res, f22.tr, 0, F22 N⟩
theorem ok22 (N : Nat) : CalOK tab 22 (c22 N) := fn_ok (f22.ok0 N) fuelW 22 f22.args f22.ta f22.res f22.tr 0

/- wreckage/wreckageref19.End -/
namespace f23
def cuts : Nat → Nat → Option Outs := fun _ _ => none
def ccut : Nat → Nat → Option Outs := fun _ _ => none
def ety : Nat → Nat → Option Ty := fun _ _ => none
def args : List PSh := [.c (.sl TRoutine .bor), .c (.int .i64)]
def ta : List Ty := [(.sl TRoutine), (.int .i64)]
def res : List (Bool × List CSh) := [(false, [.sl TRoutine .d]), (false, [.int .i64])]
def tr : List Ty := [(.sl TRoutine), (.int .i64)]
def E0 (N : Nat) : SEnv := (((SEnv.base tab cuts ccut ety).addCal 37 (c37 N)).addCal 18 (c18 N)).addCal 28 (c28 N)
theorem ok0 (N : Nat) : EnvOK tab (E0 N) := (((base_ok tab cuts ccut ety).addCal (ok37 N)).addCal (ok18 N)).addCal (ok28 N)
end f23
def F23 (N : Nat) (x : (List (Routine)) × Int) : Option ((List (Routine)) × Int) := fnRun (f23.E0 N) fuelW 23 f23.args f23.ta f23.res f23.tr 0 x
open f23 in
theorem F23_eq (N : Nat) (p0 : List (Routine)) (p1 : Int) : F23 N (p0, p1) =
  (Option.bind (F37 N (p0, p1)) fun y0 =>
  (bif (y0 != (0 : Int))
  then (Option.bind (F37 N (p0, p1)) fun y1 =>
    some ([], y1))
  else (Option.bind (idx p0 p1) fun x2 =>
    (bif (x2.1 == (3 : Int))
    then some ([], (36 : Int))
    else (Option.bind (F18 N p0) fun y3 =>
      (Option.bind (F28 N p1) fun y4 =>
      (chk (inR p1 y3.length)
      ((Option.bind (y3[(Int.toNat p1)]?) fun x5 =>
      some ((y3.set (Int.toNat p1) ((3 : Int), (0 : Int), y4, (0 : Int), (0 : Int), (0 : Int))), (0 : Int))))))))))) := by kernel_rfl
def c23 (N : Nat) : Sym.Callee := ⟨f23.args, f23.ta, f23.res, f23.tr, 0, F23 N⟩
theorem ok23 (N : Nat) : CalOK tab 23 (c23 N) := fn_ok (f23.ok0 N) fuelW 23 f23.args f23.ta f23.res f23.tr 0

/- wreckage/wreckageref19.Same -/
namespace f24
def cuts : Nat → Nat → Option Outs := fun _ _ => none
def ccut : Nat → Nat → Option Outs := fun _ _ => none
def ety : Nat → Nat → Option Ty := fun _ _ => none
def args : List PSh := [.c (.sl TRoutine .bor), .c (.sl TRoutine .bor)]
def ta : List Ty := [(.sl TRoutine), (.sl TRoutine)]
def res : List (Bool × List CSh) := [(false, [.bool])]
def tr : List Ty := [.bool]
def E0 (N : Nat) : SEnv := SEnv.base tab cuts ccut ety
theorem ok0 (N : Nat) : EnvOK tab (E0 N) := base_ok tab cuts ccut ety
def T0_6 : Tmpl := ⟨[(0, .c (.sl TRoutine .bor)), (1, .c (.sl TRoutine .bor)), (5, .c (.int .i64))], [], [], 1, [], 0, [(.sl TRoutine), (.sl TRoutine), (.int .i64)]⟩
def O0_6 : Outs := [(.ret, ⟨[(4, .c (.bool))], [], [], 1, [], 0, [.bool]⟩), (.exit 0, ⟨[], [], [], 1, [], 0, []⟩)]
def L0_6 (N : Nat) (k : Nat) (x : (List (Routine)) × (List (Routine)) × Int) : Option ((Bool) ⊕ (Unit)) := loopF (loopStep (E0 N) fuelW 0 6 (bodyAt t24 6) T0_6 O0_6) k x
theorem L0_6_succ (N : Nat) (k : Nat) (v0 : List (Routine)) (v1 : List (Routine)) (v2 : Int) : L0_6 N (k + 1) (v0, v1, v2) =
  (bif (decide (v2 < (v0.length : Int)))
  then (Option.bind (idx v0 v2) fun x3 =>
    (Option.bind (idx v1 v2) fun x4 =>
    (bif (!(x3.1 == x4.1 && (x3.2.1 == x4.2.1 && (x3.2.2.1 == x4.2.2.1 && (x3.2.2.2.1 == x4.2.2.2.1 && (x3.2.2.2.2.1 == x4.2.2.2.2.1 && (x3.2.2.2.2.2 == x4.2.2.2.2.2 && true)))))))
    then some (.inl false)
    else L0_6 N k (v0, v1, (wi64 (v2 + (1 : Int)))))))
  else some (.inr ())) := by kernel_rfl
def E1 (N : Nat) : SEnv := (E0 N).addLoop N 0 6 T0_6 O0_6
theorem ok1 (N : Nat) : EnvOK tab (E1 N) := (ok0 N).addLoop N 0 6 T0_6 O0_6
end f24
def F24 (N : Nat) (x : (List (Routine)) × List (Routine)) : Option (Bool) := fnRun (f24.E1 N) fuelW 24 f24.args f24.ta f24.res f24.tr 0 x
open f24 in
theorem F24_eq (N : Nat) (p0 : List (Routine)) (p1 : List (Routine)) : F24 N (p0, p1) =
  (bif ((p0.length : Int) != (p1.length : Int))
  then some false
  else (Option.bind (L0_6 N N (p0, p1, (0 : Int))) fun y5 =>
    (match y5 with
    | .inl a6 => some a6
    | .inr b7 => some true))) := by kernel_rfl
def c24 (N : Nat) : Sym.Callee := ⟨f24.args, f24.ta, f24.res, f24.tr, 0, F24 N⟩
theorem ok24 (N : Nat) : CalOK tab 24 (c24 N) := fn_ok (f24.ok1 N) fuelW 24 f24.args f24.ta f24.res f24.tr 0

/- wreckage/wreckagelaw19.RoutineMoves -/
namespace f5
def cuts : Nat → Nat → Option Outs := fun _ _ => none
def ccut : Nat → Nat → Option Outs := fun _ _ => none
def ety : Nat → Nat → Option Ty := fun _ _ => none
def args : List PSh := [.c (.sl TRoutine .d), .c (.int .i64), .c (.int .i64)]
def ta : List Ty := [(.sl TRoutine), (.int .i64), (.int .i64)]
def res : List (Bool × List CSh) := [(false, [.bool])]
def tr : List Ty := [.bool]
def E0 (N : Nat) : SEnv := ((((((((SEnv.base tab cuts ccut ety).addCal 18 (c18 N)).addCal 19 (c19 N)).addCal 20 (c20 N)).addCal 17 (c17 N)).addCal 21 (c21 N)).addCal 22 (c22 N)).addCal 23 (c23 N)).addCal 24 (c24 N)
theorem ok0 (N : Nat) : EnvOK tab (E0 N) := ((((((((base_ok tab cuts ccut ety).addCal (ok18 N)).addCal (ok19 N)).addCal (ok20 N)).addCal (ok17 N)).addCal (ok21 N)).addCal (ok22 N)).addCal (ok23 N)).addCal (ok24 N)
end f5
def F5 (N : Nat) (x : (List (Routine)) × (Int) × Int) : Option (Bool) := fnRun (f5.E0 N) fuelW 5 f5.args f5.ta f5.res f5.tr 0 x
open f5 in
theorem F5_eq (N : Nat) (p0 : List (Routine)) (p1 : Int) (p2 : Int) : F5 N (p0, p1, p2) =
  (bif (decide ((p0.length : Int) > (20 : Int)))
  then some true
  else (Option.bind (F18 N p0) fun y0 =>
    (Option.bind (F19 N (y0, p1, p2)) fun y1 =>
    (Option.bind (F20 N (p0, p1, p2)) fun y2 =>
    (Option.bind (F17 N (y0, p2)) fun y3 =>
    (Option.bind (F21 N (p0, p2)) fun y4 =>
    (Option.bind (F22 N (y0, p1)) fun y5 =>
    (Option.bind (F23 N (p0, p1)) fun y6 =>
    (Option.bind (F24 N (y1.1, y2.1)) fun y7 =>
    (bif y7
    then (bif (y1.2 == y2.2)
      then (Option.bind (F24 N (y3.1, y4.1)) fun y8 =>
        (bif y8
        then (bif (y3.2.1 == y4.2.1)
          then (bif (y3.2.2 == y4.2.2)
            then (Option.bind (F24 N (y5.1, y6.1)) fun y9 =>
              (bif y9
              then (bif (y5.2 == y6.2)
                then (Option.bind (F24 N (y0, p0)) fun y10 =>
                  some y10)
                else some false)
              else some false))
            else some false)
          else some false)
        else some false))
      else some false)
    else some false)))))))))) := by kernel_rfl
def c5 (N : Nat) : Sym.Callee := ⟨f5.args, f5.ta, f5.res, f5.tr, 0, F5 N⟩
theorem ok5 (N : Nat) : CalOK tab 5 (c5 N) := fn_ok (f5.ok0 N) fuelW 5 f5.args f5.ta f5.res f5.tr 0

end Go.Proofs.Ytkdjilgpknecfaa
