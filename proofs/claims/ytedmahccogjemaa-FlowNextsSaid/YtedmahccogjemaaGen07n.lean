/- What the functions compute. -/
import Derived.Test.YtedmahccogjemaaTab07n
namespace Go.Proofs.Ytedmahccogjemaa
open Go Go.Eng Go.Sym
@[reducible] def TerrorAddressString : Ty := (.prod .str (.int .u64))
abbrev errorAddressString : Type := (List UInt8) × (Int)
@[reducible] def Tuse : Ty := (.prod (.int .i64) (.prod (.int .i64) (.prod .bool .bool)))
abbrev use : Type := (Int) × ((Int) × ((Bool) × (Bool)))
@[reducible] def TboundsError : Ty := (.prod (.int .i64) (.prod (.int .i64) (.prod .bool (.int .u8))))
abbrev boundsError : Type := (Int) × ((Int) × ((Bool) × (Int)))
@[reducible] def TInstr : Ty := (.prod (.int .u8) (.prod (.int .i64) (.prod (.int .i64) (.int .i64))))
abbrev Instr : Type := (Int) × ((Int) × ((Int) × (Int)))
/- wreckage/wreckageref07.Great -/
namespace f10
def cuts : Nat → Nat → Option Outs := fun _ _ => none
def ccut : Nat → Nat → Option Outs := fun _ _ => none
def bcut : Nat → Nat → Option (Nat × Ty) := fun c i => match c, i with
  | 0, 1 => some (2, .bool)
  | _, _ => none
def unr : Nat → Nat → Bool := fun _ _ => false
def ety : Nat → Nat → Option Ty := fun _ _ => none
def args : List PSh := [.c (.sl TInstr .bor)]
def ta : List Ty := [(.sl TInstr)]
def res : List (Bool × List CSh) := [(false, [.bool])]
def tr : List Ty := [.bool]
def E0 (N : Nat) : SEnv := SEnv.base tab cuts ccut bcut unr ety
theorem ok0 (N : Nat) : EnvOK tab (E0 N) := base_ok tab cuts ccut bcut unr ety
end f10
def F10 (N : Nat) (x : List (Instr)) : Option (Bool) := fnRun (f10.E0 N) fuelW 10 f10.args f10.ta f10.res f10.tr 0 x
open f10 in
theorem F10_eq (N : Nat) (p0 : List (Instr)) : F10 N p0 =
  (Option.bind ((bif (decide ((p0.length : Int) > (60 : Int)))
    then (bif (decide ((p0.length : Int) ≤ (200 : Int)))
      then some true
      else some (decide ((p0.length : Int) > (210 : Int))))
    else some (decide ((p0.length : Int) > (210 : Int))))) fun b0 =>
  some b0) := by kernel_rfl
def c10 (N : Nat) : Sym.Callee := ⟨f10.args, f10.ta, f10.res, f10.tr, 0, F10 N⟩
theorem ok10 (N : Nat) : CalOK tab 10 (c10 N) := fn_ok (f10.ok0 N) fuelW 10 f10.args f10.ta f10.res f10.tr 0

/- wreckage/ops.write -/
namespace f64
def cuts : Nat → Nat → Option Outs := fun _ _ => none
def ccut : Nat → Nat → Option Outs := fun _ _ => none
def bcut : Nat → Nat → Option (Nat × Ty) := fun _ _ => none
def unr : Nat → Nat → Bool := fun _ _ => false
def ety : Nat → Nat → Option Ty := fun _ _ => none
def args : List PSh := []
def ta : List Ty := []
def res : List (Bool × List CSh) := [(true, [.int .i64, .int .i64, .bool, .bool])]
def tr : List Ty := [(.int .i64), (.int .i64), .bool, .bool]
def E0 (N : Nat) : SEnv := SEnv.base tab cuts ccut bcut unr ety
theorem ok0 (N : Nat) : EnvOK tab (E0 N) := base_ok tab cuts ccut bcut unr ety
end f64
def F64 (N : Nat) (x : Unit) : Option ((Int) × (Int) × (Bool) × Bool) := fnRun (f64.E0 N) fuelW 64 f64.args f64.ta f64.res f64.tr 0 x
open f64 in
theorem F64_eq (N : Nat) : F64 N () =
  some ((0 : Int), (15 : Int), false, true) := by kernel_rfl
def c64 (N : Nat) : Sym.Callee := ⟨f64.args, f64.ta, f64.res, f64.tr, 0, F64 N⟩
theorem ok64 (N : Nat) : CalOK tab 64 (c64 N) := fn_ok (f64.ok0 N) fuelW 64 f64.args f64.ta f64.res f64.tr 0

/- wreckage/ops.whole -/
namespace f65
def cuts : Nat → Nat → Option Outs := fun _ _ => none
def ccut : Nat → Nat → Option Outs := fun _ _ => none
def bcut : Nat → Nat → Option (Nat × Ty) := fun _ _ => none
def unr : Nat → Nat → Bool := fun _ _ => false
def ety : Nat → Nat → Option Ty := fun _ _ => none
def args : List PSh := []
def ta : List Ty := []
def res : List (Bool × List CSh) := [(true, [.int .i64, .int .i64, .bool, .bool])]
def tr : List Ty := [(.int .i64), (.int .i64), .bool, .bool]
def E0 (N : Nat) : SEnv := SEnv.base tab cuts ccut bcut unr ety
theorem ok0 (N : Nat) : EnvOK tab (E0 N) := base_ok tab cuts ccut bcut unr ety
end f65
def F65 (N : Nat) (x : Unit) : Option ((Int) × (Int) × (Bool) × Bool) := fnRun (f65.E0 N) fuelW 65 f65.args f65.ta f65.res f65.tr 0 x
open f65 in
theorem F65_eq (N : Nat) : F65 N () =
  some ((-9223372036854775808 : Int), (9223372036854775807 : Int), false, false) := by kernel_rfl
def c65 (N : Nat) : Sym.Callee := ⟨f65.args, f65.ta, f65.res, f65.tr, 0, F65 N⟩
theorem ok65 (N : Nat) : CalOK tab 65 (c65 N) := fn_ok (f65.ok0 N) fuelW 65 f65.args f65.ta f65.res f65.tr 0

/- wreckage/ops.below -/
namespace f66
def cuts : Nat → Nat → Option Outs := fun _ _ => none
def ccut : Nat → Nat → Option Outs := fun _ _ => none
def bcut : Nat → Nat → Option (Nat × Ty) := fun _ _ => none
def unr : Nat → Nat → Bool := fun _ _ => false
def ety : Nat → Nat → Option Ty := fun _ _ => none
def args : List PSh := [.c (.int .i64)]
def ta : List Ty := [(.int .i64)]
def res : List (Bool × List CSh) := [(true, [.int .i64, .int .i64, .bool, .bool])]
def tr : List Ty := [(.int .i64), (.int .i64), .bool, .bool]
def E0 (N : Nat) : SEnv := SEnv.base tab cuts ccut bcut unr ety
theorem ok0 (N : Nat) : EnvOK tab (E0 N) := base_ok tab cuts ccut bcut unr ety
end f66
def F66 (N : Nat) (x : Int) : Option ((Int) × (Int) × (Bool) × Bool) := fnRun (f66.E0 N) fuelW 66 f66.args f66.ta f66.res f66.tr 0 x
open f66 in
theorem F66_eq (N : Nat) (p0 : Int) : F66 N p0 =
  some ((0 : Int), (wi64 (p0 - (1 : Int))), false, false) := by kernel_rfl
def c66 (N : Nat) : Sym.Callee := ⟨f66.args, f66.ta, f66.res, f66.tr, 0, F66 N⟩
theorem ok66 (N : Nat) : CalOK tab 66 (c66 N) := fn_ok (f66.ok0 N) fuelW 66 f66.args f66.ta f66.res f66.tr 0

/- wreckage/ops.read -/
namespace f67
def cuts : Nat → Nat → Option Outs := fun _ _ => none
def ccut : Nat → Nat → Option Outs := fun _ _ => none
def bcut : Nat → Nat → Option (Nat × Ty) := fun _ _ => none
def unr : Nat → Nat → Bool := fun _ _ => false
def ety : Nat → Nat → Option Ty := fun _ _ => none
def args : List PSh := []
def ta : List Ty := []
def res : List (Bool × List CSh) := [(true, [.int .i64, .int .i64, .bool, .bool])]
def tr : List Ty := [(.int .i64), (.int .i64), .bool, .bool]
def E0 (N : Nat) : SEnv := SEnv.base tab cuts ccut bcut unr ety
theorem ok0 (N : Nat) : EnvOK tab (E0 N) := base_ok tab cuts ccut bcut unr ety
end f67
def F67 (N : Nat) (x : Unit) : Option ((Int) × (Int) × (Bool) × Bool) := fnRun (f67.E0 N) fuelW 67 f67.args f67.ta f67.res f67.tr 0 x
open f67 in
theorem F67_eq (N : Nat) : F67 N () =
  some ((0 : Int), (15 : Int), true, false) := by kernel_rfl
def c67 (N : Nat) : Sym.Callee := ⟨f67.args, f67.ta, f67.res, f67.tr, 0, F67 N⟩
theorem ok67 (N : Nat) : CalOK tab 67 (c67 N) := fn_ok (f67.ok0 N) fuelW 67 f67.args f67.ta f67.res f67.tr 0

/- wreckage/ops.shape -/
namespace f55
def cuts : Nat → Nat → Option Outs := fun _ _ => none
def ccut : Nat → Nat → Option Outs := fun _ _ => none
def bcut : Nat → Nat → Option (Nat × Ty) := fun c i => match c, i with
  | 0, 24 => some (7, .bool)
  | 0, 34 => some (16, .bool)
  | 0, 48 => some (19, .bool)
  | 0, 46 => some (19, .bool)
  | 0, 44 => some (19, .bool)
  | 0, 42 => some (19, .bool)
  | 0, 40 => some (19, .bool)
  | 0, 38 => some (19, .bool)
  | 0, 60 => some (27, .bool)
  | 0, 58 => some (27, .bool)
  | 0, 56 => some (27, .bool)
  | 0, 54 => some (27, .bool)
  | 0, 52 => some (27, .bool)
  | 0, 78 => some (46, .bool)
  | 0, 76 => some (46, .bool)
  | 0, 84 => some (52, .bool)
  | _, _ => none
def unr : Nat → Nat → Bool := fun _ _ => false
def ety : Nat → Nat → Option Ty := fun c d => match c, d with
  | 0, 62 => some Tuse
  | 0, 67 => some Tuse
  | 0, 72 => some Tuse
  | 0, 76 => some Tuse
  | 0, 91 => some Tuse
  | 0, 97 => some Tuse
  | 0, 103 => some Tuse
  | 0, 108 => some Tuse
  | 0, 112 => some Tuse
  | 0, 117 => some Tuse
  | 0, 121 => some Tuse
  | 0, 126 => some Tuse
  | 0, 132 => some Tuse
  | 0, 137 => some Tuse
  | 0, 141 => some Tuse
  | _, _ => none
def args : List PSh := [.c (.int .u8)]
def ta : List Ty := [(.int .u8)]
def res : List (Bool × List CSh) := [(true, [.int .i64, .int .i64, .bool, .bool, .int .i64, .int .i64, .bool, .bool, .int .i64, .int .i64, .bool, .bool]), (false, [.int .i64])]
def tr : List Ty := [(.int .i64), (.int .i64), .bool, .bool, (.int .i64), (.int .i64), .bool, .bool, (.int .i64), (.int .i64), .bool, .bool, (.int .i64)]
def E0 (N : Nat) : SEnv := ((((SEnv.base tab cuts ccut bcut unr ety).addCal 64 (c64 N)).addCal 65 (c65 N)).addCal 66 (c66 N)).addCal 67 (c67 N)
theorem ok0 (N : Nat) : EnvOK tab (E0 N) := ((((base_ok tab cuts ccut bcut unr ety).addCal (ok64 N)).addCal (ok65 N)).addCal (ok66 N)).addCal (ok67 N)
end f55
def F55 (N : Nat) (x : Int) : Option ((Int) × (Int) × (Bool) × (Bool) × (Int) × (Int) × (Bool) × (Bool) × (Int) × (Int) × (Bool) × (Bool) × Int) := fnRun (f55.E0 N) fuelW 55 f55.args f55.ta f55.res f55.tr 0 x
open f55 in
theorem F55_eq (N : Nat) (p0 : Int) : F55 N p0 =
  (Option.bind ((bif (p0 == (30 : Int))
    then some true
    else some (p0 == (31 : Int)))) fun b0 =>
  (bif b0
  then some ((0 : Int), (0 : Int), false, false, (0 : Int), (0 : Int), false, false, (0 : Int), (0 : Int), false, false, (0 : Int))
  else (bif (p0 == (1 : Int))
    then (Option.bind (F64 N ()) fun y1 =>
      (Option.bind (F65 N ()) fun y2 =>
      some (y1.1, y1.2.1, y1.2.2.1, y1.2.2.2, y2.1, y2.2.1, y2.2.2.1, y2.2.2.2, (0 : Int), (0 : Int), false, false, (2 : Int))))
    else (bif (p0 == (2 : Int))
      then (Option.bind (F64 N ()) fun y3 =>
        (Option.bind (F66 N (32 : Int)) fun y4 =>
        some (y3.1, y3.2.1, y3.2.2.1, y3.2.2.2, y4.1, y4.2.1, y4.2.2.1, y4.2.2.2, (0 : Int), (0 : Int), false, false, (2 : Int))))
      else (bif (p0 == (3 : Int))
        then (Option.bind (F64 N ()) fun y5 =>
          (Option.bind (F66 N (2 : Int)) fun y6 =>
          some (y5.1, y5.2.1, y5.2.2.1, y5.2.2.2, y6.1, y6.2.1, y6.2.2.1, y6.2.2.2, (0 : Int), (0 : Int), false, false, (2 : Int))))
        else (Option.bind ((bif (p0 == (4 : Int))
            then some true
            else some (p0 == (15 : Int)))) fun b7 =>
          (bif b7
          then (Option.bind (F64 N ()) fun y8 =>
            some (y8.1, y8.2.1, y8.2.2.1, y8.2.2.2, (0 : Int), (0 : Int), false, false, (0 : Int), (0 : Int), false, false, (1 : Int)))
          else (Option.bind ((bif (p0 == (6 : Int))
              then some true
              else (Option.bind ((bif (p0 == (7 : Int))
                  then some true
                  else (Option.bind ((bif (p0 == (8 : Int))
                      then some true
                      else (Option.bind ((bif (p0 == (9 : Int))
                          then some true
                          else (Option.bind ((bif (p0 == (10 : Int))
                              then some true
                              else (Option.bind ((bif (p0 == (11 : Int))
                                  then some true
                                  else some (p0 == (19 : Int)))) fun b9 =>
                                some b9))) fun b10 =>
                            some b10))) fun b11 =>
                        some b11))) fun b12 =>
                    some b12))) fun b13 =>
                some b13))) fun b14 =>
            (bif b14
            then (Option.bind (F67 N ()) fun y15 =>
              (Option.bind (F64 N ()) fun y16 =>
              (Option.bind (F67 N ()) fun y17 =>
              (bif y15.2.2.1
              then some (y16.1, y16.2.1, y16.2.2.1, y16.2.2.2, y17.1, y17.2.1, y17.2.2.1, y17.2.2.2, y15.1, y15.2.1, y15.2.2.1, y15.2.2.2, (3 : Int))
              else some (y16.1, y16.2.1, y16.2.2.1, y16.2.2.2, y17.1, y17.2.1, y17.2.2.1, y17.2.2.2, y15.1, y15.2.1, y15.2.2.1, y15.2.2.2, (2 : Int))))))
            else (Option.bind ((bif (p0 == (5 : Int))
                then some true
                else (Option.bind ((bif (p0 == (12 : Int))
                    then some true
                    else (Option.bind ((bif (p0 == (16 : Int))
                        then some true
                        else (Option.bind ((bif (p0 == (18 : Int))
                            then some true
                            else (Option.bind ((bif (p0 == (21 : Int))
                                then some true
                                else some (p0 == (33 : Int)))) fun b18 =>
                              some b18))) fun b19 =>
                          some b19))) fun b20 =>
                      some b20))) fun b21 =>
                  some b21))) fun b22 =>
              (bif b22
              then (Option.bind (F64 N ()) fun y23 =>
                (Option.bind (F67 N ()) fun y24 =>
                some (y23.1, y23.2.1, y23.2.2.1, y23.2.2.2, y24.1, y24.2.1, y24.2.2.1, y24.2.2.2, (0 : Int), (0 : Int), false, false, (2 : Int))))
              else (bif (p0 == (13 : Int))
                then (Option.bind (F64 N ()) fun y25 =>
                  (Option.bind (F67 N ()) fun y26 =>
                  (Option.bind (F66 N (8 : Int)) fun y27 =>
                  some (y25.1, y25.2.1, y25.2.2.1, y25.2.2.2, y26.1, y26.2.1, y26.2.2.1, y26.2.2.2, y27.1, y27.2.1, y27.2.2.1, y27.2.2.2, (3 : Int)))))
                else (bif (p0 == (14 : Int))
                  then (Option.bind (F67 N ()) fun y28 =>
                    (Option.bind (F66 N (8 : Int)) fun y29 =>
                    (Option.bind (F67 N ()) fun y30 =>
                    some (y28.1, y28.2.1, y28.2.2.1, y28.2.2.2, y29.1, y29.2.1, y29.2.2.1, y29.2.2.2, y30.1, y30.2.1, y30.2.2.1, y30.2.2.2, (3 : Int)))))
                  else (bif (p0 == (20 : Int))
                    then (Option.bind (F67 N ()) fun y31 =>
                      (Option.bind (F67 N ()) fun y32 =>
                      (Option.bind (F67 N ()) fun y33 =>
                      some (y31.1, y31.2.1, y31.2.2.1, y31.2.2.2, y32.1, y32.2.1, y32.2.2.1, y32.2.2.2, y33.1, y33.2.1, y33.2.2.1, y33.2.2.2, (3 : Int)))))
                    else (bif (p0 == (17 : Int))
                      then (Option.bind (F67 N ()) fun y34 =>
                        (Option.bind (F67 N ()) fun y35 =>
                        some (y34.1, y34.2.1, y34.2.2.1, y34.2.2.2, y35.1, y35.2.1, y35.2.2.1, y35.2.2.2, (0 : Int), (0 : Int), false, false, (2 : Int))))
                      else (bif (p0 == (22 : Int))
                        then (Option.bind (F66 N (200 : Int)) fun y36 =>
                          some (y36.1, y36.2.1, y36.2.2.1, y36.2.2.2, (0 : Int), (0 : Int), false, false, (0 : Int), (0 : Int), false, false, (1 : Int)))
                        else (bif (p0 == (23 : Int))
                          then (Option.bind (F67 N ()) fun y37 =>
                            (Option.bind (F66 N (200 : Int)) fun y38 =>
                            some (y37.1, y37.2.1, y37.2.2.1, y37.2.2.2, y38.1, y38.2.1, y38.2.2.1, y38.2.2.2, (0 : Int), (0 : Int), false, false, (2 : Int))))
                          else (Option.bind ((bif (p0 == (24 : Int))
                              then some true
                              else (Option.bind ((bif (p0 == (28 : Int))
                                  then some true
                                  else some (p0 == (32 : Int)))) fun b39 =>
                                some b39))) fun b40 =>
                            (bif b40
                            then (Option.bind (F67 N ()) fun y41 =>
                              some (y41.1, y41.2.1, y41.2.2.1, y41.2.2.2, (0 : Int), (0 : Int), false, false, (0 : Int), (0 : Int), false, false, (1 : Int)))
                            else (bif (p0 == (25 : Int))
                              then (Option.bind (F64 N ()) fun y42 =>
                                (Option.bind (F66 N (32 : Int)) fun y43 =>
                                some ((-1 : Int), y42.2.1, y42.2.2.1, y42.2.2.2, y43.1, y43.2.1, y43.2.2.1, y43.2.2.2, (0 : Int), (0 : Int), false, false, (2 : Int))))
                              else (Option.bind ((bif (p0 == (26 : Int))
                                  then some true
                                  else some (p0 == (27 : Int)))) fun b44 =>
                                (bif b44
                                then (Option.bind (F66 N (32 : Int)) fun y45 =>
                                  some (y45.1, y45.2.1, y45.2.2.1, y45.2.2.2, (0 : Int), (0 : Int), false, false, (0 : Int), (0 : Int), false, false, (1 : Int)))
                                else (bif (p0 == (29 : Int))
                                  then (Option.bind (F64 N ()) fun y46 =>
                                    (Option.bind (F64 N ()) fun y47 =>
                                    some (y46.1, y46.2.1, y46.2.2.1, y46.2.2.2, y47.1, y47.2.1, y47.2.2.1, y47.2.2.2, (0 : Int), (0 : Int), false, false, (2 : Int))))
                                  else (bif (p0 == (34 : Int))
                                    then (Option.bind (F67 N ()) fun y48 =>
                                      some ((-1 : Int), y48.2.1, y48.2.2.1, y48.2.2.2, (0 : Int), (0 : Int), false, false, (0 : Int), (0 : Int), false, false, (1 : Int)))
                                    else some ((0 : Int), (0 : Int), false, false, (0 : Int), (0 : Int), false, false, (0 : Int), (0 : Int), false, false, (-1 : Int)))))))))))))))))))))))))) := by kernel_rfl
def c55 (N : Nat) : Sym.Callee := ⟨f55.args, f55.ta, f55.res, f55.tr, 0, F55 N⟩
theorem ok55 (N : Nat) : CalOK tab 55 (c55 N) := fn_ok (f55.ok0 N) fuelW 55 f55.args f55.ta f55.res f55.tr 0

/- wreckage/ops.operands -/
namespace f56
def cuts : Nat → Nat → Option Outs := fun _ _ => none
def ccut : Nat → Nat → Option Outs := fun _ _ => none
def bcut : Nat → Nat → Option (Nat × Ty) := fun _ _ => none
def unr : Nat → Nat → Bool := fun _ _ => false
def ety : Nat → Nat → Option Ty := fun _ _ => none
def args : List PSh := [.agg [.int .u8, .int .i64, .int .i64, .int .i64]]
def ta : List Ty := [(.int .u8), (.int .i64), (.int .i64), (.int .i64)]
def res : List (Bool × List CSh) := [(true, [.int .i64, .int .i64, .int .i64])]
def tr : List Ty := [(.int .i64), (.int .i64), (.int .i64)]
def E0 (N : Nat) : SEnv := SEnv.base tab cuts ccut bcut unr ety
theorem ok0 (N : Nat) : EnvOK tab (E0 N) := base_ok tab cuts ccut bcut unr ety
end f56
def F56 (N : Nat) (x : (Int) × (Int) × (Int) × Int) : Option ((Int) × (Int) × Int) := fnRun (f56.E0 N) fuelW 56 f56.args f56.ta f56.res f56.tr 0 x
open f56 in
theorem F56_eq (N : Nat) (p0 : Int) (p1 : Int) (p2 : Int) (p3 : Int) : F56 N (p0, p1, p2, p3) =
  some (p1, p2, p3) := by kernel_rfl
def c56 (N : Nat) : Sym.Callee := ⟨f56.args, f56.ta, f56.res, f56.tr, 0, F56 N⟩
theorem ok56 (N : Nat) : CalOK tab 56 (c56 N) := fn_ok (f56.ok0 N) fuelW 56 f56.args f56.ta f56.res f56.tr 0

/- wreckage/ops.Check -/
namespace f40
def cuts : Nat → Nat → Option Outs := fun _ _ => none
def ccut : Nat → Nat → Option Outs := fun _ _ => none
def bcut : Nat → Nat → Option (Nat × Ty) := fun c i => match c, i with
  | 0, 12 => some (34, .bool)
  | _, _ => none
def unr : Nat → Nat → Bool := fun c i => match c, i with
  | 0, 7 => true
  | _, _ => false
def ety : Nat → Nat → Option Ty := fun _ _ => none
def args : List PSh := [.agg [.int .u8, .int .i64, .int .i64, .int .i64]]
def ta : List Ty := [(.int .u8), (.int .i64), (.int .i64), (.int .i64)]
def res : List (Bool × List CSh) := [(false, [.int .i64])]
def tr : List Ty := [(.int .i64)]
def E0 (N : Nat) : SEnv := ((SEnv.base tab cuts ccut bcut unr ety).addCal 55 (c55 N)).addCal 56 (c56 N)
theorem ok0 (N : Nat) : EnvOK tab (E0 N) := ((base_ok tab cuts ccut bcut unr ety).addCal (ok55 N)).addCal (ok56 N)
end f40
def F40 (N : Nat) (x : (Int) × (Int) × (Int) × Int) : Option (Int) := fnRun (f40.E0 N) fuelW 40 f40.args f40.ta f40.res f40.tr 0 x
open f40 in
theorem F40_eq (N : Nat) (p0 : Int) (p1 : Int) (p2 : Int) (p3 : Int) : F40 N (p0, p1, p2, p3) =
  (Option.bind (F55 N p0) fun y0 =>
  (bif (decide (y0.2.2.2.2.2.2.2.2.2.2.2.2 < (0 : Int)))
  then some (8 : Int)
  else (Option.bind (F56 N (p0, p1, p2, p3)) fun y1 =>
    (Option.bind ((bif (decide (y1.1 < y0.1))
      then some true
      else some (decide (y1.1 > y0.2.1)))) fun b2 =>
    (bif b2
    then some (8 : Int)
    else (Option.bind ((bif (decide (y1.2.1 < y0.2.2.2.2.1))
        then some true
        else some (decide (y1.2.1 > y0.2.2.2.2.2.1)))) fun b3 =>
      (bif b3
      then some (8 : Int)
      else (Option.bind ((bif (decide (y1.2.2 < y0.2.2.2.2.2.2.2.2.1))
          then some true
          else some (decide (y1.2.2 > y0.2.2.2.2.2.2.2.2.2.1)))) fun b4 =>
        (bif b4
        then some (8 : Int)
        else some (0 : Int)))))))))) := by kernel_rfl
def c40 (N : Nat) : Sym.Callee := ⟨f40.args, f40.ta, f40.res, f40.tr, 0, F40 N⟩
theorem ok40 (N : Nat) : CalOK tab 40 (c40 N) := fn_ok (f40.ok0 N) fuelW 40 f40.args f40.ta f40.res f40.tr 0

/- wreckage/flow.Check -/
namespace f15
def cuts : Nat → Nat → Option Outs := fun _ _ => none
def ccut : Nat → Nat → Option Outs := fun _ _ => none
def bcut : Nat → Nat → Option (Nat × Ty) := fun c i => match c, i with
  | 0, 15 => some (51, .bool)
  | _, _ => none
def unr : Nat → Nat → Bool := fun _ _ => false
def ety : Nat → Nat → Option Ty := fun _ _ => none
def args : List PSh := [.c (.sl TInstr .bor)]
def ta : List Ty := [(.sl TInstr)]
def res : List (Bool × List CSh) := [(false, [.int .i64])]
def tr : List Ty := [(.int .i64)]
def E0 (N : Nat) : SEnv := (SEnv.base tab cuts ccut bcut unr ety).addCal 40 (c40 N)
theorem ok0 (N : Nat) : EnvOK tab (E0 N) := (base_ok tab cuts ccut bcut unr ety).addCal (ok40 N)
def T0_7 : Tmpl := ⟨[(3, .c (.int .i64)), (23, .c (.sl TInstr .bor)), (24, .c (.int .i64)), (25, .c (.int .i64))], [], [], 1, [], 0, [(.int .i64), (.sl TInstr), (.int .i64), (.int .i64)]⟩
def O0_7 : Outs := [(.ret, ⟨[(2, .c (.int .i64))], [], [], 1, [], 0, [(.int .i64)]⟩), (.exit 0, ⟨[], [], [], 1, [], 0, []⟩)]
def L0_7 (N : Nat) (k : Nat) (x : (Int) × (List (Instr)) × (Int) × Int) : Option ((Int) ⊕ (Unit)) := loopF (loopStep (E0 N) fuelW 0 7 (bodyAt t15 7) T0_7 O0_7) k x
theorem L0_7_succ (N : Nat) (k : Nat) (v1 : Int) (v2 : List (Instr)) (v3 : Int) (v4 : Int) : L0_7 N (k + 1) (v1, v2, v3, v4) =
  (bif (decide (v4 < v3))
  then (Option.bind (idx v2 v4) fun x5 =>
    (Option.bind (F40 N (x5.1, x5.2.1, x5.2.2.1, x5.2.2.2)) fun y6 =>
    (bif (y6 != (0 : Int))
    then some (Sum.inl (8 : Int))
    else (Option.bind ((bif (x5.1 == (22 : Int))
        then (bif (decide (x5.2.1 ≥ v1))
          then some true
          else (bif (x5.1 == (23 : Int))
            then some (decide (x5.2.2.1 ≥ v1))
            else some false))
        else (bif (x5.1 == (23 : Int))
          then some (decide (x5.2.2.1 ≥ v1))
          else some false))) fun b7 =>
      (bif b7
      then some (Sum.inl (8 : Int))
      else L0_7 N k (v1, v2, v3, (wi64 (v4 + (1 : Int)))))))))
  else some (Sum.inr ())) := by kernel_rfl
def E1 (N : Nat) : SEnv := (E0 N).addLoop N 0 7 T0_7 O0_7
theorem ok1 (N : Nat) : EnvOK tab (E1 N) := (ok0 N).addLoop N 0 7 T0_7 O0_7
end f15
def F15 (N : Nat) (x : List (Instr)) : Option (Int) := fnRun (f15.E1 N) fuelW 15 f15.args f15.ta f15.res f15.tr 0 x
open f15 in
theorem F15_eq (N : Nat) (p0 : List (Instr)) : F15 N p0 =
  (bif ((p0.length : Int) == (0 : Int))
  then some (8 : Int)
  else (bif (decide ((p0.length : Int) > (200 : Int)))
    then some (8 : Int)
    else (Option.bind (idx p0 (wi64 ((p0.length : Int) - (1 : Int)))) fun x0 =>
      (bif (!(x0.1 == (34 : Int) && (x0.2.1 == (-1 : Int) && (x0.2.2.1 == (0 : Int) && (x0.2.2.2 == (0 : Int) && true)))))
      then some (8 : Int)
      else (Option.bind (L0_7 N N ((p0.length : Int), p0, (p0.length : Int), (0 : Int))) fun y8 =>
        (match y8 with
        | .inl a9 => some a9
        | .inr b10 => some (0 : Int))))))) := by kernel_rfl
def c15 (N : Nat) : Sym.Callee := ⟨f15.args, f15.ta, f15.res, f15.tr, 0, F15 N⟩
theorem ok15 (N : Nat) : CalOK tab 15 (c15 N) := fn_ok (f15.ok1 N) fuelW 15 f15.args f15.ta f15.res f15.tr 0

/- wreckage/flow.behind -/
namespace f36
def cuts : Nat → Nat → Option Outs := fun _ _ => none
def ccut : Nat → Nat → Option Outs := fun _ _ => none
def bcut : Nat → Nat → Option (Nat × Ty) := fun c i => match c, i with
  | 0, 7 => some (13, .bool)
  | 0, 5 => some (13, .bool)
  | _, _ => none
def unr : Nat → Nat → Bool := fun _ _ => false
def ety : Nat → Nat → Option Ty := fun c d => match c, d with
  | 0, 21 => some (.int .i64)
  | 0, 28 => some (.int .i64)
  | 0, 35 => some (.int .i64)
  | _, _ => none
def args : List PSh := [.c (.sl TInstr .bor), .c (.int .i64)]
def ta : List Ty := [(.sl TInstr), (.int .i64)]
def res : List (Bool × List CSh) := [(false, [.sl (.int .i64) .d])]
def tr : List Ty := [(.sl (.int .i64))]
def E0 (N : Nat) : SEnv := SEnv.base tab cuts ccut bcut unr ety
theorem ok0 (N : Nat) : EnvOK tab (E0 N) := base_ok tab cuts ccut bcut unr ety
end f36
def F36 (N : Nat) (x : (List (Instr)) × Int) : Option (List (Int)) := fnRun (f36.E0 N) fuelW 36 f36.args f36.ta f36.res f36.tr 0 x
open f36 in
theorem F36_eq (N : Nat) (p0 : List (Instr)) (p1 : Int) : F36 N (p0, p1) =
  (Option.bind (idx p0 p1) fun x0 =>
  (Option.bind ((bif (x0.1 == (34 : Int))
    then some true
    else (Option.bind ((bif (x0.1 == (28 : Int))
        then some true
        else some (x0.1 == (30 : Int)))) fun b1 =>
      some b1))) fun b2 =>
  (bif b2
  then some []
  else (bif (x0.1 == (22 : Int))
    then some [x0.2.1]
    else (bif (x0.1 == (23 : Int))
      then (chk (decide ([(wi64 (p1 + (1 : Int))), x0.2.2.1].length < 4611686018427387904))
        ((chk (decide ((sortI [(wi64 (p1 + (1 : Int))), x0.2.2.1]).length < 4611686018427387904))
        (some (compI (sortI [(wi64 (p1 + (1 : Int))), x0.2.2.1]))))))
      else some [(wi64 (p1 + (1 : Int)))]))))) := by kernel_rfl
def c36 (N : Nat) : Sym.Callee := ⟨f36.args, f36.ta, f36.res, f36.tr, 0, F36 N⟩
theorem ok36 (N : Nat) : CalOK tab 36 (c36 N) := fn_ok (f36.ok0 N) fuelW 36 f36.args f36.ta f36.res f36.tr 0

/- wreckage/flow.Next -/
namespace f11
def cuts : Nat → Nat → Option Outs := fun _ _ => none
def ccut : Nat → Nat → Option Outs := fun _ _ => none
def bcut : Nat → Nat → Option (Nat × Ty) := fun c i => match c, i with
  | 0, 5 => some (19, .bool)
  | _, _ => none
def unr : Nat → Nat → Bool := fun _ _ => false
def ety : Nat → Nat → Option Ty := fun _ _ => none
def args : List PSh := [.c (.sl TInstr .bor), .c (.int .i64)]
def ta : List Ty := [(.sl TInstr), (.int .i64)]
def res : List (Bool × List CSh) := [(false, [.sl (.int .i64) .d]), (false, [.int .i64])]
def tr : List Ty := [(.sl (.int .i64)), (.int .i64)]
def E0 (N : Nat) : SEnv := ((SEnv.base tab cuts ccut bcut unr ety).addCal 15 (c15 N)).addCal 36 (c36 N)
theorem ok0 (N : Nat) : EnvOK tab (E0 N) := ((base_ok tab cuts ccut bcut unr ety).addCal (ok15 N)).addCal (ok36 N)
end f11
def F11 (N : Nat) (x : (List (Instr)) × Int) : Option ((List (Int)) × Int) := fnRun (f11.E0 N) fuelW 11 f11.args f11.ta f11.res f11.tr 0 x
open f11 in
theorem F11_eq (N : Nat) (p0 : List (Instr)) (p1 : Int) : F11 N (p0, p1) =
  (Option.bind (F15 N p0) fun y0 =>
  (bif (y0 != (0 : Int))
  then some ([], y0)
  else (Option.bind ((bif (decide (p1 < (0 : Int)))
      then some true
      else some (decide (p1 ≥ (p0.length : Int))))) fun b1 =>
    (bif b1
    then some ([], (2 : Int))
    else (Option.bind (F36 N (p0, p1)) fun y2 =>
      some (y2, (0 : Int))))))) := by kernel_rfl
def c11 (N : Nat) : Sym.Callee := ⟨f11.args, f11.ta, f11.res, f11.tr, 0, F11 N⟩
theorem ok11 (N : Nat) : CalOK tab 11 (c11 N) := fn_ok (f11.ok0 N) fuelW 11 f11.args f11.ta f11.res f11.tr 0

/- wreckage/wreckageref06.Shape -/
namespace f57
def cuts : Nat → Nat → Option Outs := fun _ _ => none
def ccut : Nat → Nat → Option Outs := fun _ _ => none
def bcut : Nat → Nat → Option (Nat × Ty) := fun c i => match c, i with
  | 0, 13 => some (10, .bool)
  | 0, 24 => some (13, .bool)
  | 0, 22 => some (13, .bool)
  | 0, 20 => some (13, .bool)
  | 0, 18 => some (13, .bool)
  | 0, 39 => some (19, .bool)
  | 0, 37 => some (19, .bool)
  | 0, 35 => some (19, .bool)
  | 0, 33 => some (19, .bool)
  | 0, 31 => some (19, .bool)
  | 0, 29 => some (19, .bool)
  | 0, 64 => some (39, .bool)
  | 0, 62 => some (39, .bool)
  | 0, 72 => some (45, .bool)
  | 0, 80 => some (50, .bool)
  | _, _ => none
def unr : Nat → Nat → Bool := fun _ _ => false
def ety : Nat → Nat → Option Ty := fun _ _ => none
def args : List PSh := [.c (.int .u8)]
def ta : List Ty := [(.int .u8)]
def res : List (Bool × List CSh) := [(false, [.str])]
def tr : List Ty := [.str]
def E0 (N : Nat) : SEnv := SEnv.base tab cuts ccut bcut unr ety
theorem ok0 (N : Nat) : EnvOK tab (E0 N) := base_ok tab cuts ccut bcut unr ety
end f57
def F57 (N : Nat) (x : Int) : Option (List UInt8) := fnRun (f57.E0 N) fuelW 57 f57.args f57.ta f57.res f57.tr 0 x
open f57 in
theorem F57_eq (N : Nat) (p0 : Int) : F57 N p0 =
  (bif (p0 == (1 : Int))
  then some [119, 110, 45]
  else (bif (p0 == (2 : Int))
    then some [119, 116, 45]
    else (bif (p0 == (3 : Int))
      then some [119, 98, 45]
      else (Option.bind ((bif (p0 == (4 : Int))
          then some true
          else some (p0 == (15 : Int)))) fun b0 =>
        (bif b0
        then some [119, 45, 45]
        else (Option.bind ((bif (p0 == (5 : Int))
            then some true
            else (Option.bind ((bif (p0 == (12 : Int))
                then some true
                else (Option.bind ((bif (p0 == (16 : Int))
                    then some true
                    else (Option.bind ((bif (p0 == (18 : Int))
                        then some true
                        else some (p0 == (21 : Int)))) fun b1 =>
                      some b1))) fun b2 =>
                  some b2))) fun b3 =>
              some b3))) fun b4 =>
          (bif b4
          then some [119, 114, 45]
          else (Option.bind ((bif (p0 == (6 : Int))
              then some true
              else (Option.bind ((bif (p0 == (7 : Int))
                  then some true
                  else (Option.bind ((bif (p0 == (8 : Int))
                      then some true
                      else (Option.bind ((bif (p0 == (9 : Int))
                          then some true
                          else (Option.bind ((bif (p0 == (10 : Int))
                              then some true
                              else (Option.bind ((bif (p0 == (11 : Int))
                                  then some true
                                  else some (p0 == (19 : Int)))) fun b5 =>
                                some b5))) fun b6 =>
                            some b6))) fun b7 =>
                        some b7))) fun b8 =>
                    some b8))) fun b9 =>
                some b9))) fun b10 =>
            (bif b10
            then some [119, 114, 114]
            else (bif (p0 == (13 : Int))
              then some [119, 114, 102]
              else (bif (p0 == (14 : Int))
                then some [114, 102, 114]
                else (bif (p0 == (17 : Int))
                  then some [114, 114, 45]
                  else (bif (p0 == (20 : Int))
                    then some [114, 114, 114]
                    else (bif (p0 == (22 : Int))
                      then some [105, 45, 45]
                      else (bif (p0 == (23 : Int))
                        then some [114, 105, 45]
                        else (Option.bind ((bif (p0 == (24 : Int))
                            then some true
                            else (Option.bind ((bif (p0 == (28 : Int))
                                then some true
                                else some (p0 == (32 : Int)))) fun b11 =>
                              some b11))) fun b12 =>
                          (bif b12
                          then some [114, 45, 45]
                          else (bif (p0 == (25 : Int))
                            then some [103, 99, 45]
                            else (Option.bind ((bif (p0 == (26 : Int))
                                then some true
                                else some (p0 == (27 : Int)))) fun b13 =>
                              (bif b13
                              then some [99, 45, 45]
                              else (bif (p0 == (29 : Int))
                                then some [119, 119, 45]
                                else (Option.bind ((bif (p0 == (30 : Int))
                                    then some true
                                    else some (p0 == (31 : Int)))) fun b14 =>
                                  (bif b14
                                  then some [45, 45, 45]
                                  else (bif (p0 == (33 : Int))
                                    then some [119, 114, 45]
                                    else (bif (p0 == (34 : Int))
                                      then some [101, 45, 45]
                                      else some ([] : List UInt8)))))))))))))))))))))))))) := by kernel_rfl
def c57 (N : Nat) : Sym.Callee := ⟨f57.args, f57.ta, f57.res, f57.tr, 0, F57 N⟩
theorem ok57 (N : Nat) : CalOK tab 57 (c57 N) := fn_ok (f57.ok0 N) fuelW 57 f57.args f57.ta f57.res f57.tr 0

/- wreckage/wreckageref06.Operands -/
namespace f58
def cuts : Nat → Nat → Option Outs := fun _ _ => none
def ccut : Nat → Nat → Option Outs := fun _ _ => none
def bcut : Nat → Nat → Option (Nat × Ty) := fun _ _ => none
def unr : Nat → Nat → Bool := fun _ _ => false
def ety : Nat → Nat → Option Ty := fun _ _ => none
def args : List PSh := [.agg [.int .u8, .int .i64, .int .i64, .int .i64]]
def ta : List Ty := [(.int .u8), (.int .i64), (.int .i64), (.int .i64)]
def res : List (Bool × List CSh) := [(true, [.int .i64, .int .i64, .int .i64])]
def tr : List Ty := [(.int .i64), (.int .i64), (.int .i64)]
def E0 (N : Nat) : SEnv := SEnv.base tab cuts ccut bcut unr ety
theorem ok0 (N : Nat) : EnvOK tab (E0 N) := base_ok tab cuts ccut bcut unr ety
end f58
def F58 (N : Nat) (x : (Int) × (Int) × (Int) × Int) : Option ((Int) × (Int) × Int) := fnRun (f58.E0 N) fuelW 58 f58.args f58.ta f58.res f58.tr 0 x
open f58 in
theorem F58_eq (N : Nat) (p0 : Int) (p1 : Int) (p2 : Int) (p3 : Int) : F58 N (p0, p1, p2, p3) =
  some (p1, p2, p3) := by kernel_rfl
def c58 (N : Nat) : Sym.Callee := ⟨f58.args, f58.ta, f58.res, f58.tr, 0, F58 N⟩
theorem ok58 (N : Nat) : CalOK tab 58 (c58 N) := fn_ok (f58.ok0 N) fuelW 58 f58.args f58.ta f58.res f58.tr 0

/- wreckage/wreckageref06.Fits -/
namespace f59
def cuts : Nat → Nat → Option Outs := fun _ _ => none
def ccut : Nat → Nat → Option Outs := fun _ _ => none
def bcut : Nat → Nat → Option (Nat × Ty) := fun c i => match c, i with
  | 0, 7 => some (10, .bool)
  | 0, 10 => some (4, .bool)
  | 0, 12 => some (19, .bool)
  | 0, 15 => some (4, .bool)
  | 0, 17 => some (28, .bool)
  | 0, 20 => some (4, .bool)
  | 0, 23 => some (4, .bool)
  | 0, 26 => some (4, .bool)
  | 0, 29 => some (4, .bool)
  | _, _ => none
def unr : Nat → Nat → Bool := fun _ _ => false
def ety : Nat → Nat → Option Ty := fun _ _ => none
def args : List PSh := [.c (.int .u8), .c (.int .i64)]
def ta : List Ty := [(.int .u8), (.int .i64)]
def res : List (Bool × List CSh) := [(false, [.bool])]
def tr : List Ty := [.bool]
def E0 (N : Nat) : SEnv := SEnv.base tab cuts ccut bcut unr ety
theorem ok0 (N : Nat) : EnvOK tab (E0 N) := base_ok tab cuts ccut bcut unr ety
end f59
def F59 (N : Nat) (x : (Int) × Int) : Option (Bool) := fnRun (f59.E0 N) fuelW 59 f59.args f59.ta f59.res f59.tr 0 x
open f59 in
theorem F59_eq (N : Nat) (p0 : Int) (p1 : Int) : F59 N (p0, p1) =
  (bif (p0 == (45 : Int))
  then some (p1 == (0 : Int))
  else (Option.bind ((bif (p0 == (119 : Int))
      then some true
      else some (p0 == (114 : Int)))) fun b0 =>
    (bif b0
    then (Option.bind ((bif (decide (p1 ≥ (0 : Int)))
        then some (decide (p1 < (16 : Int)))
        else some false)) fun b1 =>
      some b1)
    else (Option.bind ((bif (p0 == (103 : Int))
        then some true
        else some (p0 == (101 : Int)))) fun b2 =>
      (bif b2
      then (Option.bind ((bif (decide (p1 ≥ (-1 : Int)))
          then some (decide (p1 < (16 : Int)))
          else some false)) fun b3 =>
        some b3)
      else (Option.bind ((bif (p0 == (116 : Int))
          then some true
          else some (p0 == (99 : Int)))) fun b4 =>
        (bif b4
        then (Option.bind ((bif (decide (p1 ≥ (0 : Int)))
            then some (decide (p1 < (32 : Int)))
            else some false)) fun b5 =>
          some b5)
        else (bif (p0 == (98 : Int))
          then (Option.bind ((bif (decide (p1 ≥ (0 : Int)))
              then some (decide (p1 < (2 : Int)))
              else some false)) fun b6 =>
            some b6)
          else (bif (p0 == (102 : Int))
            then (Option.bind ((bif (decide (p1 ≥ (0 : Int)))
                then some (decide (p1 < (8 : Int)))
                else some false)) fun b7 =>
              some b7)
            else (bif (p0 == (105 : Int))
              then (Option.bind ((bif (decide (p1 ≥ (0 : Int)))
                  then some (decide (p1 < (200 : Int)))
                  else some false)) fun b8 =>
                some b8)
              else some true)))))))))) := by kernel_rfl
def c59 (N : Nat) : Sym.Callee := ⟨f59.args, f59.ta, f59.res, f59.tr, 0, F59 N⟩
theorem ok59 (N : Nat) : CalOK tab 59 (c59 N) := fn_ok (f59.ok0 N) fuelW 59 f59.args f59.ta f59.res f59.tr 0

/- wreckage/wreckageref06.Check -/
namespace f41
def cuts : Nat → Nat → Option Outs := fun _ _ => none
def ccut : Nat → Nat → Option Outs := fun _ _ => none
def bcut : Nat → Nat → Option (Nat × Ty) := fun c i => match c, i with
  | 0, 11 => some (25, .bool)
  | _, _ => none
def unr : Nat → Nat → Bool := fun c i => match c, i with
  | 0, 7 => true
  | _, _ => false
def ety : Nat → Nat → Option Ty := fun _ _ => none
def args : List PSh := [.agg [.int .u8, .int .i64, .int .i64, .int .i64]]
def ta : List Ty := [(.int .u8), (.int .i64), (.int .i64), (.int .i64)]
def res : List (Bool × List CSh) := [(false, [.int .i64])]
def tr : List Ty := [(.int .i64)]
def E0 (N : Nat) : SEnv := (((SEnv.base tab cuts ccut bcut unr ety).addCal 57 (c57 N)).addCal 58 (c58 N)).addCal 59 (c59 N)
theorem ok0 (N : Nat) : EnvOK tab (E0 N) := (((base_ok tab cuts ccut bcut unr ety).addCal (ok57 N)).addCal (ok58 N)).addCal (ok59 N)
end f41
def F41 (N : Nat) (x : (Int) × (Int) × (Int) × Int) : Option (Int) := fnRun (f41.E0 N) fuelW 41 f41.args f41.ta f41.res f41.tr 0 x
open f41 in
theorem F41_eq (N : Nat) (p0 : Int) (p1 : Int) (p2 : Int) (p3 : Int) : F41 N (p0, p1, p2, p3) =
  (Option.bind (F57 N p0) fun y0 =>
  (Option.bind (F58 N (p0, p1, p2, p3)) fun y1 =>
  (bif ((y0.length : Int) != (3 : Int))
  then some (8 : Int)
  else (Option.bind ((Option.bind (idx y0 (0 : Int)) fun c2 =>
      (Option.bind (F59 N ((c2.toNat : Int), y1.1)) fun y3 =>
      some (!y3)))) fun b4 =>
    (bif b4
    then some (8 : Int)
    else (Option.bind ((Option.bind (idx y0 (1 : Int)) fun c5 =>
        (Option.bind (F59 N ((c5.toNat : Int), y1.2.1)) fun y6 =>
        some (!y6)))) fun b7 =>
      (bif b7
      then some (8 : Int)
      else (Option.bind ((Option.bind (idx y0 (2 : Int)) fun c8 =>
          (Option.bind (F59 N ((c8.toNat : Int), y1.2.2)) fun y9 =>
          some (!y9)))) fun b10 =>
        (bif b10
        then some (8 : Int)
        else some (0 : Int)))))))))) := by kernel_rfl
def c41 (N : Nat) : Sym.Callee := ⟨f41.args, f41.ta, f41.res, f41.tr, 0, F41 N⟩
theorem ok41 (N : Nat) : CalOK tab 41 (c41 N) := fn_ok (f41.ok0 N) fuelW 41 f41.args f41.ta f41.res f41.tr 0

/- wreckage/wreckageref07.Check -/
namespace f16
def cuts : Nat → Nat → Option Outs := fun _ _ => none
def ccut : Nat → Nat → Option Outs := fun _ _ => none
def bcut : Nat → Nat → Option (Nat × Ty) := fun c i => match c, i with
  | 0, 1 => some (12, .bool)
  | 0, 11 => some (49, .bool)
  | _, _ => none
def unr : Nat → Nat → Bool := fun _ _ => false
def ety : Nat → Nat → Option Ty := fun _ _ => none
def args : List PSh := [.c (.sl TInstr .bor)]
def ta : List Ty := [(.sl TInstr)]
def res : List (Bool × List CSh) := [(false, [.int .i64])]
def tr : List Ty := [(.int .i64)]
def E0 (N : Nat) : SEnv := (SEnv.base tab cuts ccut bcut unr ety).addCal 41 (c41 N)
theorem ok0 (N : Nat) : EnvOK tab (E0 N) := (base_ok tab cuts ccut bcut unr ety).addCal (ok41 N)
def T0_6 : Tmpl := ⟨[(0, .c (.sl TInstr .bor)), (3, .c (.int .i64))], [], [], 1, [], 0, [(.sl TInstr), (.int .i64)]⟩
def O0_6 : Outs := [(.ret, ⟨[(2, .c (.int .i64))], [], [], 1, [], 0, [(.int .i64)]⟩), (.exit 0, ⟨[(0, .c (.sl TInstr .bor))], [], [], 1, [], 0, [(.sl TInstr)]⟩)]
def L0_6 (N : Nat) (k : Nat) (x : (List (Instr)) × Int) : Option ((Int) ⊕ (List (Instr))) := loopF (loopStep (E0 N) fuelW 0 6 (bodyAt t16 6) T0_6 O0_6) k x
theorem L0_6_succ (N : Nat) (k : Nat) (v1 : List (Instr)) (v2 : Int) : L0_6 N (k + 1) (v1, v2) =
  (bif (decide (v2 < (v1.length : Int)))
  then (Option.bind (idx v1 v2) fun x3 =>
    (Option.bind ((Option.bind (F41 N (x3.1, x3.2.1, x3.2.2.1, x3.2.2.2)) fun y4 =>
      (bif (y4 != (0 : Int))
      then some true
      else (bif (x3.1 == (22 : Int))
        then (bif (decide (x3.2.1 ≥ (v1.length : Int)))
          then some true
          else (bif (x3.1 == (23 : Int))
            then some (decide (x3.2.2.1 ≥ (v1.length : Int)))
            else some false))
        else (bif (x3.1 == (23 : Int))
          then some (decide (x3.2.2.1 ≥ (v1.length : Int)))
          else some false))))) fun b5 =>
    (bif b5
    then some (Sum.inl (8 : Int))
    else L0_6 N k (v1, (wi64 (v2 + (1 : Int)))))))
  else some (Sum.inr v1)) := by kernel_rfl
def E1 (N : Nat) : SEnv := (E0 N).addLoop N 0 6 T0_6 O0_6
theorem ok1 (N : Nat) : EnvOK tab (E1 N) := (ok0 N).addLoop N 0 6 T0_6 O0_6
end f16
def F16 (N : Nat) (x : List (Instr)) : Option (Int) := fnRun (f16.E1 N) fuelW 16 f16.args f16.ta f16.res f16.tr 0 x
open f16 in
theorem F16_eq (N : Nat) (p0 : List (Instr)) : F16 N p0 =
  (Option.bind ((bif (decide ((p0.length : Int) < (1 : Int)))
    then some true
    else some (decide ((p0.length : Int) > (200 : Int))))) fun b0 =>
  (bif b0
  then some (8 : Int)
  else (Option.bind (L0_6 N N (p0, (0 : Int))) fun y6 =>
    (match y6 with
    | .inl a7 => some a7
    | .inr b8 => (Option.bind (idx b8 (wi64 ((b8.length : Int) - (1 : Int)))) fun x9 =>
      (bif (!(x9.1 == (34 : Int) && (x9.2.1 == (-1 : Int) && (x9.2.2.1 == (0 : Int) && (x9.2.2.2 == (0 : Int) && true)))))
      then some (8 : Int)
      else some (0 : Int))))))) := by kernel_rfl
def c16 (N : Nat) : Sym.Callee := ⟨f16.args, f16.ta, f16.res, f16.tr, 0, F16 N⟩
theorem ok16 (N : Nat) : CalOK tab 16 (c16 N) := fn_ok (f16.ok1 N) fuelW 16 f16.args f16.ta f16.res f16.tr 0

/- wreckage/wreckageref07.Behind -/
namespace f37
def cuts : Nat → Nat → Option Outs := fun _ _ => none
def ccut : Nat → Nat → Option Outs := fun _ _ => none
def bcut : Nat → Nat → Option (Nat × Ty) := fun c i => match c, i with
  | 0, 7 => some (12, .bool)
  | 0, 5 => some (12, .bool)
  | _, _ => none
def unr : Nat → Nat → Bool := fun _ _ => false
def ety : Nat → Nat → Option Ty := fun c d => match c, d with
  | 0, 20 => some (.int .i64)
  | 0, 30 => some (.int .i64)
  | 0, 41 => some (.int .i64)
  | 0, 44 => some (.int .i64)
  | _, _ => none
def args : List PSh := [.c (.sl TInstr .bor), .c (.int .i64)]
def ta : List Ty := [(.sl TInstr), (.int .i64)]
def res : List (Bool × List CSh) := [(false, [.sl (.int .i64) .d])]
def tr : List Ty := [(.sl (.int .i64))]
def E0 (N : Nat) : SEnv := SEnv.base tab cuts ccut bcut unr ety
theorem ok0 (N : Nat) : EnvOK tab (E0 N) := base_ok tab cuts ccut bcut unr ety
end f37
def F37 (N : Nat) (x : (List (Instr)) × Int) : Option (List (Int)) := fnRun (f37.E0 N) fuelW 37 f37.args f37.ta f37.res f37.tr 0 x
open f37 in
theorem F37_eq (N : Nat) (p0 : List (Instr)) (p1 : Int) : F37 N (p0, p1) =
  (Option.bind (idx p0 p1) fun x0 =>
  (Option.bind ((bif (x0.1 == (34 : Int))
    then some true
    else (Option.bind ((bif (x0.1 == (28 : Int))
        then some true
        else some (x0.1 == (30 : Int)))) fun b1 =>
      some b1))) fun b2 =>
  (bif b2
  then some []
  else (bif (x0.1 == (22 : Int))
    then some [x0.2.1]
    else (bif (x0.1 == (23 : Int))
      then (bif (x0.2.2.1 == (wi64 (p1 + (1 : Int))))
        then some [(wi64 (p1 + (1 : Int)))]
        else some [(min (wi64 (p1 + (1 : Int))) x0.2.2.1), (max (wi64 (p1 + (1 : Int))) x0.2.2.1)])
      else some [(wi64 (p1 + (1 : Int)))]))))) := by kernel_rfl
def c37 (N : Nat) : Sym.Callee := ⟨f37.args, f37.ta, f37.res, f37.tr, 0, F37 N⟩
theorem ok37 (N : Nat) : CalOK tab 37 (c37 N) := fn_ok (f37.ok0 N) fuelW 37 f37.args f37.ta f37.res f37.tr 0

/- wreckage/wreckageref07.Next -/
namespace f12
def cuts : Nat → Nat → Option Outs := fun _ _ => none
def ccut : Nat → Nat → Option Outs := fun _ _ => none
def bcut : Nat → Nat → Option (Nat × Ty) := fun c i => match c, i with
  | 0, 4 => some (16, .bool)
  | _, _ => none
def unr : Nat → Nat → Bool := fun _ _ => false
def ety : Nat → Nat → Option Ty := fun _ _ => none
def args : List PSh := [.c (.sl TInstr .bor), .c (.int .i64)]
def ta : List Ty := [(.sl TInstr), (.int .i64)]
def res : List (Bool × List CSh) := [(false, [.sl (.int .i64) .d]), (false, [.int .i64])]
def tr : List Ty := [(.sl (.int .i64)), (.int .i64)]
def E0 (N : Nat) : SEnv := ((SEnv.base tab cuts ccut bcut unr ety).addCal 16 (c16 N)).addCal 37 (c37 N)
theorem ok0 (N : Nat) : EnvOK tab (E0 N) := ((base_ok tab cuts ccut bcut unr ety).addCal (ok16 N)).addCal (ok37 N)
end f12
def F12 (N : Nat) (x : (List (Instr)) × Int) : Option ((List (Int)) × Int) := fnRun (f12.E0 N) fuelW 12 f12.args f12.ta f12.res f12.tr 0 x
open f12 in
theorem F12_eq (N : Nat) (p0 : List (Instr)) (p1 : Int) : F12 N (p0, p1) =
  (Option.bind (F16 N p0) fun y0 =>
  (bif (y0 != (0 : Int))
  then some ([], (8 : Int))
  else (Option.bind ((bif (decide (p1 < (0 : Int)))
      then some true
      else some (decide (p1 ≥ (p0.length : Int))))) fun b1 =>
    (bif b1
    then some ([], (2 : Int))
    else (Option.bind (F37 N (p0, p1)) fun y2 =>
      some (y2, (0 : Int))))))) := by kernel_rfl
def c12 (N : Nat) : Sym.Callee := ⟨f12.args, f12.ta, f12.res, f12.tr, 0, F12 N⟩
theorem ok12 (N : Nat) : CalOK tab 12 (c12 N) := fn_ok (f12.ok0 N) fuelW 12 f12.args f12.ta f12.res f12.tr 0

/- wreckage/flow.Reached -/
namespace f13
def cuts : Nat → Nat → Option Outs := fun _ _ => none
def ccut : Nat → Nat → Option Outs := fun _ _ => none
def bcut : Nat → Nat → Option (Nat × Ty) := fun _ _ => none
def unr : Nat → Nat → Bool := fun _ _ => false
def ety : Nat → Nat → Option Ty := fun c d => match c, d with
  | 0, 13 => some .bool
  | 1016000, 10 => some (.int .i64)
  | 1016000, 39 => some (.int .i64)
  | _, _ => none
def args : List PSh := [.c (.sl TInstr .bor)]
def ta : List Ty := [(.sl TInstr)]
def res : List (Bool × List CSh) := [(false, [.sl .bool .d]), (false, [.int .i64])]
def tr : List Ty := [(.sl .bool), (.int .i64)]
def E0 (N : Nat) : SEnv := ((SEnv.base tab cuts ccut bcut unr ety).addCal 15 (c15 N)).addCal 36 (c36 N)
theorem ok0 (N : Nat) : EnvOK tab (E0 N) := ((base_ok tab cuts ccut bcut unr ety).addCal (ok15 N)).addCal (ok36 N)
def T1016000_11 : Tmpl := ⟨[(0, .c (.sl TInstr .bor)), (1, .clo 39 [.ptr 0 5 0 0 0]), (4, .c (.ref 1 10 1 (.int .i64))), (5, .c (.int .i64)), (27, .c (.sl (.int .i64) .d)), (28, .c (.int .i64)), (29, .c (.int .i64))], [[(5, .c (.ptr 0 5 0 0 0))]], [(0, 5, .box 0 [.ref 0 13 2 .bool]), (0, 13, .row 2 .bool), (1, 10, .row 1 (.int .i64))], 2, [], 3, [(.sl TInstr), (.int .i64), (.sl (.int .i64)), (.int .i64), (.int .i64), (.sl .bool), (.sl (.int .i64))]⟩
def O1016000_11 : Outs := [(.exit 2, ⟨[(0, .c (.sl TInstr .bor)), (1, .clo 39 [.ptr 0 5 0 0 0]), (4, .c (.ref 1 10 1 (.int .i64)))], [[(5, .c (.ptr 0 5 0 0 0))]], [(0, 5, .box 0 [.ref 0 13 2 .bool]), (0, 13, .row 2 .bool), (1, 10, .row 1 (.int .i64))], 2, [], 3, [(.sl TInstr), (.sl .bool), (.sl (.int .i64))]⟩)]
def L1016000_11 (N : Nat) (k : Nat) (x : (List (Instr)) × (Int) × (List (Int)) × (Int) × (Int) × (List (Bool)) × List (Int)) : Option (((List (Instr)) × (List (Bool)) × List (Int))) := loopF (loopStep (E0 N) fuelW 1016000 11 (bodyAt t38 11) T1016000_11 O1016000_11) k x
theorem L1016000_11_succ (N : Nat) (k : Nat) (v8 : List (Instr)) (v9 : Int) (v10 : List (Int)) (v11 : Int) (v12 : Int) (v13 : List (Bool)) (v14 : List (Int)) : L1016000_11 N (k + 1) (v8, v9, v10, v11, v12, v13, v14) =
  (bif (decide (v12 < v11))
  then (Option.bind (idx v10 v12) fun x15 =>
    (chk (inR x15 v13.length)
    ((Option.bind (v13[(Int.toNat x15)]?) fun x16 =>
    (chk (inR x15 v13.length)
    ((Option.bind (v13[(Int.toNat x15)]?) fun x17 =>
    (bif (!x16)
    then (chk (room (v14.length + 1) 8)
      (L1016000_11 N k (v8, v9, v10, v11, (wi64 (v12 + (1 : Int))), (v13.set (Int.toNat x15) true), (v14 ++ [x15]))))
    else L1016000_11 N k (v8, v9, v10, v11, (wi64 (v12 + (1 : Int))), (v13.set (Int.toNat x15) true), v14)))))))))
  else some (v8, v13, v14)) := by kernel_rfl
def E1 (N : Nat) : SEnv := (E0 N).addLoop N 1016000 11 T1016000_11 O1016000_11
theorem ok1 (N : Nat) : EnvOK tab (E1 N) := (ok0 N).addLoop N 1016000 11 T1016000_11 O1016000_11
def T1016000_3 : Tmpl := ⟨[(0, .c (.sl TInstr .bor)), (1, .clo 39 [.ptr 0 5 0 0 0]), (4, .c (.ref 1 10 1 (.int .i64)))], [[(5, .c (.ptr 0 5 0 0 0))]], [(0, 5, .box 0 [.ref 0 13 2 .bool]), (0, 13, .row 2 .bool), (1, 10, .row 1 (.int .i64))], 2, [], 3, [(.sl TInstr), (.sl .bool), (.sl (.int .i64))]⟩
def O1016000_3 : Outs := [(.exit 0, ⟨[], [[(5, .c (.ptr 0 5 0 0 0))]], [(0, 5, .box 0 [.ref 0 13 1 .bool]), (0, 13, .row 1 .bool)], 2, [], 2, [(.sl .bool)]⟩)]
def L1016000_3 (N : Nat) (k : Nat) (x : (List (Instr)) × (List (Bool)) × List (Int)) : Option ((List (Bool))) := loopF (loopStep (E1 N) fuelW 1016000 3 (bodyAt t38 3) T1016000_3 O1016000_3) k x
theorem L1016000_3_succ (N : Nat) (k : Nat) (v3 : List (Instr)) (v4 : List (Bool)) (v5 : List (Int)) : L1016000_3 N (k + 1) (v3, v4, v5) =
  (bif (decide ((v5.length : Int) > (0 : Int)))
  then (chk (inR (wi64 ((v5.length : Int) - (1 : Int))) v5.length)
    ((Option.bind (v5[(Int.toNat (wi64 ((v5.length : Int) - (1 : Int))))]?) fun x6 =>
    (chk (decide (0 ≤ (wi64 ((v5.length : Int) - (1 : Int)))))
    ((chk (decide ((Int.toNat (wi64 ((v5.length : Int) - (1 : Int)))) ≤ v5.length))
    ((Option.bind (F36 N (v3, x6)) fun y7 =>
    (Option.bind (L1016000_11 N N (v3, x6, y7, (y7.length : Int), (0 : Int), v4, (v5.take (Int.toNat (wi64 ((v5.length : Int) - (1 : Int))))))) fun y18 =>
    L1016000_3 N k (y18.1, y18.2.1, y18.2.2))))))))))
  else some v4) := by kernel_rfl
def E2 (N : Nat) : SEnv := (E1 N).addLoop N 1016000 3 T1016000_3 O1016000_3
theorem ok2 (N : Nat) : EnvOK tab (E2 N) := (ok1 N).addLoop N 1016000 3 T1016000_3 O1016000_3
end f13
def F13 (N : Nat) (x : List (Instr)) : Option ((List (Bool)) × Int) := fnRun (f13.E2 N) fuelW 13 f13.args f13.ta f13.res f13.tr 0 x
open f13 in
theorem F13_eq (N : Nat) (p0 : List (Instr)) : F13 N p0 =
  (Option.bind (F15 N p0) fun y0 =>
  (bif (y0 != (0 : Int))
  then some ([], y0)
  else (chk (decide (0 ≤ (p0.length : Int)))
    ((chk (decide (0 ≤ (p0.length : Int)))
    ((chk (decide ((Int.toNat (p0.length : Int)) ≤ (Int.toNat (p0.length : Int))) && room (Int.toNat (p0.length : Int)) 1)
    ((chk (inR (0 : Int) (List.replicate (Int.toNat (p0.length : Int)) false).length)
    ((Option.bind ((List.replicate (Int.toNat (p0.length : Int)) false)[(Int.toNat (0 : Int))]?) fun x1 =>
    (chk (inR (0 : Int) (List.replicate (Int.toNat (p0.length : Int)) false).length)
    ((Option.bind ((List.replicate (Int.toNat (p0.length : Int)) false)[(Int.toNat (0 : Int))]?) fun x2 =>
    (Option.bind (L1016000_3 N N (p0, ((List.replicate (Int.toNat (p0.length : Int)) false).set (Int.toNat (0 : Int)) true), [(0 : Int)])) fun y19 =>
    (chk (inR (wi64 ((y19.length : Int) - (1 : Int))) y19.length)
    ((Option.bind (y19[(Int.toNat (wi64 ((y19.length : Int) - (1 : Int))))]?) fun x20 =>
    some ((y19.set (Int.toNat (wi64 ((y19.length : Int) - (1 : Int)))) true), (0 : Int)))))))))))))))))))) := by kernel_rfl
def c13 (N : Nat) : Sym.Callee := ⟨f13.args, f13.ta, f13.res, f13.tr, 0, F13 N⟩
theorem ok13 (N : Nat) : CalOK tab 13 (c13 N) := fn_ok (f13.ok2 N) fuelW 13 f13.args f13.ta f13.res f13.tr 0

/- wreckage/wreckageref07.Led -/
namespace f26
def cuts : Nat → Nat → Option Outs := fun _ _ => none
def ccut : Nat → Nat → Option Outs := fun _ _ => none
def bcut : Nat → Nat → Option (Nat × Ty) := fun c i => match c, i with
  | 0, 20 => some (32, .bool)
  | _, _ => none
def unr : Nat → Nat → Bool := fun _ _ => false
def ety : Nat → Nat → Option Ty := fun c d => match c, d with
  | 0, 2 => some .bool
  | 0, 10 => some .bool
  | _, _ => none
def args : List PSh := [.c (.sl TInstr .bor)]
def ta : List Ty := [(.sl TInstr)]
def res : List (Bool × List CSh) := [(false, [.sl .bool .d])]
def tr : List Ty := [(.sl .bool)]
def E0 (N : Nat) : SEnv := (SEnv.base tab cuts ccut bcut unr ety).addCal 37 (c37 N)
theorem ok0 (N : Nat) : EnvOK tab (E0 N) := (base_ok tab cuts ccut bcut unr ety).addCal (ok37 N)
def T0_19 : Tmpl := ⟨[(0, .c (.sl TInstr .bor)), (3, .c (.ref 0 10 0 .bool)), (4, .c (.bool)), (5, .c (.int .i64)), (6, .c (.sl (.int .i64) .d)), (7, .c (.int .i64))], [], [(0, 10, .row 0 .bool)], 1, [], 1, [(.sl TInstr), .bool, (.int .i64), (.sl (.int .i64)), (.int .i64), (.sl .bool)]⟩
def O0_19 : Outs := [(.exit 4, ⟨[(0, .c (.sl TInstr .bor)), (3, .c (.ref 0 10 0 .bool)), (4, .c (.bool)), (5, .c (.int .i64))], [], [(0, 10, .row 0 .bool)], 1, [], 1, [(.sl TInstr), .bool, (.int .i64), (.sl .bool)]⟩)]
def L0_19 (N : Nat) (k : Nat) (x : (List (Instr)) × (Bool) × (Int) × (List (Int)) × (Int) × List (Bool)) : Option (((List (Instr)) × (Bool) × (Int) × List (Bool))) := loopF (loopStep (E0 N) fuelW 0 19 (bodyAt t26 19) T0_19 O0_19) k x
theorem L0_19_succ (N : Nat) (k : Nat) (v9 : List (Instr)) (v10 : Bool) (v11 : Int) (v12 : List (Int)) (v13 : Int) (v14 : List (Bool)) : L0_19 N (k + 1) (v9, v10, v11, v12, v13, v14) =
  (Option.bind ((bif (decide (v13 < (v12.length : Int)))
    then (chk (inR v11 v14.length)
      ((Option.bind (v14[(Int.toNat v11)]?) fun x15 =>
      some x15)))
    else some false)) fun b16 =>
  (bif b16
  then (Option.bind (idx v12 v13) fun x17 =>
    (chk (inR x17 v14.length)
    ((Option.bind (v14[(Int.toNat x17)]?) fun x18 =>
    (bif (!x18)
    then (Option.bind (idx v12 v13) fun x19 =>
      (chk (inR x19 v14.length)
      ((Option.bind (v14[(Int.toNat x19)]?) fun x20 =>
      L0_19 N k (v9, true, v11, v12, (wi64 (v13 + (1 : Int))), (v14.set (Int.toNat x19) true))))))
    else L0_19 N k (v9, v10, v11, v12, (wi64 (v13 + (1 : Int))), v14))))))
  else some (v9, v10, v11, v14))) := by kernel_rfl
def E1 (N : Nat) : SEnv := (E0 N).addLoop N 0 19 T0_19 O0_19
theorem ok1 (N : Nat) : EnvOK tab (E1 N) := (ok0 N).addLoop N 0 19 T0_19 O0_19
def T0_12 : Tmpl := ⟨[(0, .c (.sl TInstr .bor)), (3, .c (.ref 0 10 0 .bool)), (4, .c (.bool)), (5, .c (.int .i64))], [], [(0, 10, .row 0 .bool)], 1, [], 1, [(.sl TInstr), .bool, (.int .i64), (.sl .bool)]⟩
def O0_12 : Outs := [(.exit 2, ⟨[(0, .c (.sl TInstr .bor)), (3, .c (.ref 0 10 0 .bool)), (4, .c (.bool))], [], [(0, 10, .row 0 .bool)], 1, [], 1, [(.sl TInstr), .bool, (.sl .bool)]⟩)]
def L0_12 (N : Nat) (k : Nat) (x : (List (Instr)) × (Bool) × (Int) × List (Bool)) : Option (((List (Instr)) × (Bool) × List (Bool))) := loopF (loopStep (E1 N) fuelW 0 12 (bodyAt t26 12) T0_12 O0_12) k x
theorem L0_12_succ (N : Nat) (k : Nat) (v4 : List (Instr)) (v5 : Bool) (v6 : Int) (v7 : List (Bool)) : L0_12 N (k + 1) (v4, v5, v6, v7) =
  (bif (decide (v6 < (v4.length : Int)))
  then (Option.bind (F37 N (v4, v6)) fun y8 =>
    (Option.bind (L0_19 N N (v4, v5, v6, y8, (0 : Int), v7)) fun y21 =>
    L0_12 N k (y21.1, y21.2.1, (wi64 (y21.2.2.1 + (1 : Int))), y21.2.2.2)))
  else some (v4, v5, v7)) := by kernel_rfl
def E2 (N : Nat) : SEnv := (E1 N).addLoop N 0 12 T0_12 O0_12
theorem ok2 (N : Nat) : EnvOK tab (E2 N) := (ok1 N).addLoop N 0 12 T0_12 O0_12
def T0_5 : Tmpl := ⟨[(0, .c (.sl TInstr .bor)), (3, .c (.ref 0 10 0 .bool)), (4, .c (.bool))], [], [(0, 10, .row 0 .bool)], 1, [], 1, [(.sl TInstr), .bool, (.sl .bool)]⟩
def O0_5 : Outs := [(.exit 0, ⟨[(3, .c (.ref 0 10 0 .bool))], [], [(0, 10, .row 0 .bool)], 1, [], 1, [(.sl .bool)]⟩)]
def L0_5 (N : Nat) (k : Nat) (x : (List (Instr)) × (Bool) × List (Bool)) : Option ((List (Bool))) := loopF (loopStep (E2 N) fuelW 0 5 (bodyAt t26 5) T0_5 O0_5) k x
theorem L0_5_succ (N : Nat) (k : Nat) (v1 : List (Instr)) (v2 : Bool) (v3 : List (Bool)) : L0_5 N (k + 1) (v1, v2, v3) =
  (bif v2
  then (Option.bind (L0_12 N N (v1, false, (0 : Int), v3)) fun y22 =>
    L0_5 N k (y22.1, y22.2.1, y22.2.2))
  else some v3) := by kernel_rfl
def E3 (N : Nat) : SEnv := (E2 N).addLoop N 0 5 T0_5 O0_5
theorem ok3 (N : Nat) : EnvOK tab (E3 N) := (ok2 N).addLoop N 0 5 T0_5 O0_5
end f26
def F26 (N : Nat) (x : List (Instr)) : Option (List (Bool)) := fnRun (f26.E3 N) fuelW 26 f26.args f26.ta f26.res f26.tr 1 x
open f26 in
theorem F26_eq (N : Nat) (p0 : List (Instr)) : F26 N p0 =
  (chk (decide (0 ≤ (p0.length : Int)))
  ((chk (decide (0 ≤ (p0.length : Int)))
  ((chk (decide ((Int.toNat (p0.length : Int)) ≤ (Int.toNat (p0.length : Int))) && room (Int.toNat (p0.length : Int)) 1)
  ((chk (inR (0 : Int) (List.replicate (Int.toNat (p0.length : Int)) false).length)
  ((Option.bind ((List.replicate (Int.toNat (p0.length : Int)) false)[(Int.toNat (0 : Int))]?) fun x0 =>
  (Option.bind (L0_5 N N (p0, true, ((List.replicate (Int.toNat (p0.length : Int)) false).set (Int.toNat (0 : Int)) true))) fun y23 =>
  some y23)))))))))) := by kernel_rfl
def c26 (N : Nat) : Sym.Callee := ⟨f26.args, f26.ta, f26.res, f26.tr, 1, F26 N⟩
theorem ok26 (N : Nat) : CalOK tab 26 (c26 N) := fn_ok (f26.ok3 N) fuelW 26 f26.args f26.ta f26.res f26.tr 1

/- wreckage/wreckageref07.Reached -/
namespace f14
def cuts : Nat → Nat → Option Outs := fun _ _ => none
def ccut : Nat → Nat → Option Outs := fun _ _ => none
def bcut : Nat → Nat → Option (Nat × Ty) := fun _ _ => none
def unr : Nat → Nat → Bool := fun _ _ => false
def ety : Nat → Nat → Option Ty := fun _ _ => none
def args : List PSh := [.c (.sl TInstr .bor)]
def ta : List Ty := [(.sl TInstr)]
def res : List (Bool × List CSh) := [(false, [.sl .bool .d]), (false, [.int .i64])]
def tr : List Ty := [(.sl .bool), (.int .i64)]
def E0 (N : Nat) : SEnv := ((SEnv.base tab cuts ccut bcut unr ety).addCal 16 (c16 N)).addCal 26 (c26 N)
theorem ok0 (N : Nat) : EnvOK tab (E0 N) := ((base_ok tab cuts ccut bcut unr ety).addCal (ok16 N)).addCal (ok26 N)
end f14
def F14 (N : Nat) (x : List (Instr)) : Option ((List (Bool)) × Int) := fnRun (f14.E0 N) fuelW 14 f14.args f14.ta f14.res f14.tr 0 x
open f14 in
theorem F14_eq (N : Nat) (p0 : List (Instr)) : F14 N p0 =
  (Option.bind (F16 N p0) fun y0 =>
  (bif (y0 != (0 : Int))
  then some ([], (8 : Int))
  else (Option.bind (F26 N p0) fun y1 =>
    (chk (inR (wi64 ((p0.length : Int) - (1 : Int))) y1.length)
    ((Option.bind (y1[(Int.toNat (wi64 ((p0.length : Int) - (1 : Int))))]?) fun x2 =>
    some ((y1.set (Int.toNat (wi64 ((p0.length : Int) - (1 : Int)))) true), (0 : Int)))))))) := by kernel_rfl
def c14 (N : Nat) : Sym.Callee := ⟨f14.args, f14.ta, f14.res, f14.tr, 0, F14 N⟩
theorem ok14 (N : Nat) : CalOK tab 14 (c14 N) := fn_ok (f14.ok0 N) fuelW 14 f14.args f14.ta f14.res f14.tr 0

/- wreckage/wreckageref04.SameInts -/
namespace f17
def cuts : Nat → Nat → Option Outs := fun _ _ => none
def ccut : Nat → Nat → Option Outs := fun _ _ => none
def bcut : Nat → Nat → Option (Nat × Ty) := fun _ _ => none
def unr : Nat → Nat → Bool := fun _ _ => false
def ety : Nat → Nat → Option Ty := fun _ _ => none
def args : List PSh := [.c (.sl (.int .i64) .bor), .c (.sl (.int .i64) .bor)]
def ta : List Ty := [(.sl (.int .i64)), (.sl (.int .i64))]
def res : List (Bool × List CSh) := [(false, [.bool])]
def tr : List Ty := [.bool]
def E0 (N : Nat) : SEnv := SEnv.base tab cuts ccut bcut unr ety
theorem ok0 (N : Nat) : EnvOK tab (E0 N) := base_ok tab cuts ccut bcut unr ety
def T0_6 : Tmpl := ⟨[(0, .c (.sl (.int .i64) .bor)), (1, .c (.sl (.int .i64) .bor)), (5, .c (.int .i64))], [], [], 1, [], 0, [(.sl (.int .i64)), (.sl (.int .i64)), (.int .i64)]⟩
def O0_6 : Outs := [(.ret, ⟨[(4, .c (.bool))], [], [], 1, [], 0, [.bool]⟩), (.exit 0, ⟨[], [], [], 1, [], 0, []⟩)]
def L0_6 (N : Nat) (k : Nat) (x : (List (Int)) × (List (Int)) × Int) : Option ((Bool) ⊕ (Unit)) := loopF (loopStep (E0 N) fuelW 0 6 (bodyAt t17 6) T0_6 O0_6) k x
theorem L0_6_succ (N : Nat) (k : Nat) (v0 : List (Int)) (v1 : List (Int)) (v2 : Int) : L0_6 N (k + 1) (v0, v1, v2) =
  (bif (decide (v2 < (v0.length : Int)))
  then (Option.bind (idx v0 v2) fun x3 =>
    (Option.bind (idx v1 v2) fun x4 =>
    (bif (x3 != x4)
    then some (Sum.inl false)
    else L0_6 N k (v0, v1, (wi64 (v2 + (1 : Int)))))))
  else some (Sum.inr ())) := by kernel_rfl
def E1 (N : Nat) : SEnv := (E0 N).addLoop N 0 6 T0_6 O0_6
theorem ok1 (N : Nat) : EnvOK tab (E1 N) := (ok0 N).addLoop N 0 6 T0_6 O0_6
end f17
def F17 (N : Nat) (x : (List (Int)) × List (Int)) : Option (Bool) := fnRun (f17.E1 N) fuelW 17 f17.args f17.ta f17.res f17.tr 0 x
open f17 in
theorem F17_eq (N : Nat) (p0 : List (Int)) (p1 : List (Int)) : F17 N (p0, p1) =
  (bif ((p0.length : Int) != (p1.length : Int))
  then some false
  else (Option.bind (L0_6 N N (p0, p1, (0 : Int))) fun y5 =>
    (match y5 with
    | .inl a6 => some a6
    | .inr b7 => some true))) := by kernel_rfl
def c17 (N : Nat) : Sym.Callee := ⟨f17.args, f17.ta, f17.res, f17.tr, 0, F17 N⟩
theorem ok17 (N : Nat) : CalOK tab 17 (c17 N) := fn_ok (f17.ok1 N) fuelW 17 f17.args f17.ta f17.res f17.tr 0

/- wreckage/wreckageref07.SameBools -/
namespace f18
def cuts : Nat → Nat → Option Outs := fun _ _ => none
def ccut : Nat → Nat → Option Outs := fun _ _ => none
def bcut : Nat → Nat → Option (Nat × Ty) := fun _ _ => none
def unr : Nat → Nat → Bool := fun _ _ => false
def ety : Nat → Nat → Option Ty := fun _ _ => none
def args : List PSh := [.c (.sl .bool .bor), .c (.sl .bool .bor)]
def ta : List Ty := [(.sl .bool), (.sl .bool)]
def res : List (Bool × List CSh) := [(false, [.bool])]
def tr : List Ty := [.bool]
def E0 (N : Nat) : SEnv := SEnv.base tab cuts ccut bcut unr ety
theorem ok0 (N : Nat) : EnvOK tab (E0 N) := base_ok tab cuts ccut bcut unr ety
def T0_6 : Tmpl := ⟨[(0, .c (.sl .bool .bor)), (1, .c (.sl .bool .bor)), (5, .c (.int .i64))], [], [], 1, [], 0, [(.sl .bool), (.sl .bool), (.int .i64)]⟩
def O0_6 : Outs := [(.ret, ⟨[(4, .c (.bool))], [], [], 1, [], 0, [.bool]⟩), (.exit 0, ⟨[], [], [], 1, [], 0, []⟩)]
def L0_6 (N : Nat) (k : Nat) (x : (List (Bool)) × (List (Bool)) × Int) : Option ((Bool) ⊕ (Unit)) := loopF (loopStep (E0 N) fuelW 0 6 (bodyAt t18 6) T0_6 O0_6) k x
theorem L0_6_succ (N : Nat) (k : Nat) (v0 : List (Bool)) (v1 : List (Bool)) (v2 : Int) : L0_6 N (k + 1) (v0, v1, v2) =
  (bif (decide (v2 < (v0.length : Int)))
  then (Option.bind (idx v0 v2) fun x3 =>
    (Option.bind (idx v1 v2) fun x4 =>
    (bif (!(x3 == x4))
    then some (Sum.inl false)
    else L0_6 N k (v0, v1, (wi64 (v2 + (1 : Int)))))))
  else some (Sum.inr ())) := by kernel_rfl
def E1 (N : Nat) : SEnv := (E0 N).addLoop N 0 6 T0_6 O0_6
theorem ok1 (N : Nat) : EnvOK tab (E1 N) := (ok0 N).addLoop N 0 6 T0_6 O0_6
end f18
def F18 (N : Nat) (x : (List (Bool)) × List (Bool)) : Option (Bool) := fnRun (f18.E1 N) fuelW 18 f18.args f18.ta f18.res f18.tr 0 x
open f18 in
theorem F18_eq (N : Nat) (p0 : List (Bool)) (p1 : List (Bool)) : F18 N (p0, p1) =
  (bif ((p0.length : Int) != (p1.length : Int))
  then some false
  else (Option.bind (L0_6 N N (p0, p1, (0 : Int))) fun y5 =>
    (match y5 with
    | .inl a6 => some a6
    | .inr b7 => some true))) := by kernel_rfl
def c18 (N : Nat) : Sym.Callee := ⟨f18.args, f18.ta, f18.res, f18.tr, 0, F18 N⟩
theorem ok18 (N : Nat) : CalOK tab 18 (c18 N) := fn_ok (f18.ok1 N) fuelW 18 f18.args f18.ta f18.res f18.tr 0

/- wreckage/wreckageref07.Same -/
namespace f19
def cuts : Nat → Nat → Option Outs := fun _ _ => none
def ccut : Nat → Nat → Option Outs := fun _ _ => none
def bcut : Nat → Nat → Option (Nat × Ty) := fun _ _ => none
def unr : Nat → Nat → Bool := fun _ _ => false
def ety : Nat → Nat → Option Ty := fun _ _ => none
def args : List PSh := [.c (.sl TInstr .bor), .c (.sl TInstr .bor)]
def ta : List Ty := [(.sl TInstr), (.sl TInstr)]
def res : List (Bool × List CSh) := [(false, [.bool])]
def tr : List Ty := [.bool]
def E0 (N : Nat) : SEnv := SEnv.base tab cuts ccut bcut unr ety
theorem ok0 (N : Nat) : EnvOK tab (E0 N) := base_ok tab cuts ccut bcut unr ety
def T0_6 : Tmpl := ⟨[(0, .c (.sl TInstr .bor)), (1, .c (.sl TInstr .bor)), (5, .c (.int .i64))], [], [], 1, [], 0, [(.sl TInstr), (.sl TInstr), (.int .i64)]⟩
def O0_6 : Outs := [(.ret, ⟨[(4, .c (.bool))], [], [], 1, [], 0, [.bool]⟩), (.exit 0, ⟨[], [], [], 1, [], 0, []⟩)]
def L0_6 (N : Nat) (k : Nat) (x : (List (Instr)) × (List (Instr)) × Int) : Option ((Bool) ⊕ (Unit)) := loopF (loopStep (E0 N) fuelW 0 6 (bodyAt t19 6) T0_6 O0_6) k x
theorem L0_6_succ (N : Nat) (k : Nat) (v0 : List (Instr)) (v1 : List (Instr)) (v2 : Int) : L0_6 N (k + 1) (v0, v1, v2) =
  (bif (decide (v2 < (v0.length : Int)))
  then (Option.bind (idx v0 v2) fun x3 =>
    (Option.bind (idx v1 v2) fun x4 =>
    (bif (!(x3.1 == x4.1 && (x3.2.1 == x4.2.1 && (x3.2.2.1 == x4.2.2.1 && (x3.2.2.2 == x4.2.2.2 && true)))))
    then some (Sum.inl false)
    else L0_6 N k (v0, v1, (wi64 (v2 + (1 : Int)))))))
  else some (Sum.inr ())) := by kernel_rfl
def E1 (N : Nat) : SEnv := (E0 N).addLoop N 0 6 T0_6 O0_6
theorem ok1 (N : Nat) : EnvOK tab (E1 N) := (ok0 N).addLoop N 0 6 T0_6 O0_6
end f19
def F19 (N : Nat) (x : (List (Instr)) × List (Instr)) : Option (Bool) := fnRun (f19.E1 N) fuelW 19 f19.args f19.ta f19.res f19.tr 0 x
open f19 in
theorem F19_eq (N : Nat) (p0 : List (Instr)) (p1 : List (Instr)) : F19 N (p0, p1) =
  (bif ((p0.length : Int) != (p1.length : Int))
  then some false
  else (Option.bind (L0_6 N N (p0, p1, (0 : Int))) fun y5 =>
    (match y5 with
    | .inl a6 => some a6
    | .inr b7 => some true))) := by kernel_rfl
def c19 (N : Nat) : Sym.Callee := ⟨f19.args, f19.ta, f19.res, f19.tr, 0, F19 N⟩
theorem ok19 (N : Nat) : CalOK tab 19 (c19 N) := fn_ok (f19.ok1 N) fuelW 19 f19.args f19.ta f19.res f19.tr 0

/- wreckage/wreckagelaw07.FlowNexts -/
namespace f3
def cuts : Nat → Nat → Option Outs := fun _ _ => none
def ccut : Nat → Nat → Option Outs := fun _ _ => none
def bcut : Nat → Nat → Option (Nat × Ty) := fun c i => match c, i with
  | 0, 9 => some (4, .bool)
  | _, _ => none
def unr : Nat → Nat → Bool := fun _ _ => false
def ety : Nat → Nat → Option Ty := fun c d => match c, d with
  | 0, 16 => some TInstr
  | _, _ => none
def args : List PSh := [.c (.sl TInstr .d), .c (.int .i64)]
def ta : List Ty := [(.sl TInstr), (.int .i64)]
def res : List (Bool × List CSh) := [(false, [.bool])]
def tr : List Ty := [.bool]
def E0 (N : Nat) : SEnv := ((((((((((SEnv.base tab cuts ccut bcut unr ety).addCal 10 (c10 N)).addCal 11 (c11 N)).addCal 12 (c12 N)).addCal 13 (c13 N)).addCal 14 (c14 N)).addCal 15 (c15 N)).addCal 16 (c16 N)).addCal 17 (c17 N)).addCal 18 (c18 N)).addCal 19 (c19 N)
theorem ok0 (N : Nat) : EnvOK tab (E0 N) := ((((((((((base_ok tab cuts ccut bcut unr ety).addCal (ok10 N)).addCal (ok11 N)).addCal (ok12 N)).addCal (ok13 N)).addCal (ok14 N)).addCal (ok15 N)).addCal (ok16 N)).addCal (ok17 N)).addCal (ok18 N)).addCal (ok19 N)
end f3
def F3 (N : Nat) (x : (List (Instr)) × Int) : Option (Bool) := fnRun (f3.E0 N) fuelW 3 f3.args f3.ta f3.res f3.tr 0 x
open f3 in
theorem F3_eq (N : Nat) (p0 : List (Instr)) (p1 : Int) : F3 N (p0, p1) =
  (Option.bind (F10 N p0) fun y0 =>
  (bif y0
  then some true
  else (chk (room (0 + p0.length) 32)
    ((Option.bind (F11 N (p0, p1)) fun y1 =>
    (Option.bind (F12 N (p0, p1)) fun y2 =>
    (Option.bind (F13 N p0) fun y3 =>
    (Option.bind (F14 N p0) fun y4 =>
    (Option.bind ((Option.bind (F15 N p0) fun y5 =>
      (Option.bind (F16 N p0) fun y6 =>
      (bif (y5 == y6)
      then (Option.bind (F17 N (y1.1, y2.1)) fun y7 =>
        (bif y7
        then (bif (y1.2 == y2.2)
          then (Option.bind (F18 N (y3.1, y4.1)) fun y8 =>
            (bif y8
            then (bif (y3.2 == y4.2)
              then (Option.bind (F19 N (p0, ([] ++ p0))) fun y9 =>
                some y9)
              else some false)
            else some false))
          else some false)
        else some false))
      else some false)))) fun b10 =>
    some b10))))))))) := by kernel_rfl
def c3 (N : Nat) : Sym.Callee := ⟨f3.args, f3.ta, f3.res, f3.tr, 0, F3 N⟩
theorem ok3 (N : Nat) : CalOK tab 3 (c3 N) := fn_ok (f3.ok0 N) fuelW 3 f3.args f3.ta f3.res f3.tr 0

end Go.Proofs.Ytedmahccogjemaa
