/- What the functions compute. -/
import Derived.Test.YtedmahccogjemaaTab07wa
namespace Go.Proofs.Ytedmahccogjemaa
open Go Go.Eng Go.Sym
@[reducible] def TerrorAddressString : Ty := (.prod .str (.int .u64))
abbrev errorAddressString : Type := (List UInt8) × (Int)
@[reducible] def Tuse : Ty := (.prod (.int .i64) (.prod (.int .i64) (.prod .bool .bool)))
abbrev use : Type := (Int) × ((Int) × ((Bool) × (Bool)))
@[reducible] def TboundsError : Ty := (.prod (.int .i64) (.prod (.int .i64) (.prod .bool (.int .u8))))
abbrev boundsError : Type := (Int) × ((Int) × ((Bool) × (Int)))
@[reducible] def TInstr : Ty := (.prod (.int .u8) (.prod (.int .i64) (.prod (.int .i64) (.int .i64))))
abbrev Instr : Type := (Int) × ((Int) × ((Int) × (Int)))
/- wreckage/wreckageref07.Great -/
namespace f10
def cuts : Nat → Nat → Option Outs := fun _ _ => none
def ccut : Nat → Nat → Option Outs := fun _ _ => none
def bcut : Nat → Nat → Option (Nat × Ty) := fun c i => match c, i with
  | 0, 1 => some (2, .bool)
  | _, _ => none
def unr : Nat → Nat → Bool := fun _ _ => false
def ety : Nat → Nat → Option Ty := fun _ _ => none
def args : List PSh := [.c (.sl TInstr .bor)]
def ta : List Ty := [(.sl TInstr)]
def res : List (Bool × List CSh) := [(false, [.bool])]
def tr : List Ty := [.bool]
def E0 (N : Nat) : SEnv := SEnv.base tab cuts ccut bcut unr ety
theorem ok0 (N : Nat) : EnvOK tab (E0 N) := base_ok tab cuts ccut bcut unr ety
end f10
def F10 (N : Nat) (x : List (Instr)) : Option (Bool) := fnRun (f10.E0 N) fuelW 10 f10.args f10.ta f10.res f10.tr 0 x
open f10 in
theorem F10_eq (N : Nat) (p0 : List (Instr)) : F10 N p0 =
  (Option.bind ((bif (decide ((p0.length : Int) > (60 : Int)))
    then (bif (decide ((p0.length : Int) ≤ (200 : Int)))
      then some true
      else some (decide ((p0.length : Int) > (210 : Int))))
    else some (decide ((p0.length : Int) > (210 : Int))))) fun b0 =>
  some b0) := by kernel_rfl
def c10 (N : Nat) : Sym.Callee := ⟨f10.args, f10.ta, f10.res, f10.tr, 0, F10 N⟩
theorem ok10 (N : Nat) : CalOK tab 10 (c10 N) := fn_ok (f10.ok0 N) fuelW 10 f10.args f10.ta f10.res f10.tr 0

/- wreckage/wreckageref06.Shape -/
namespace f57
def cuts : Nat → Nat → Option Outs := fun _ _ => none
def ccut : Nat → Nat → Option Outs := fun _ _ => none
def bcut : Nat → Nat → Option (Nat × Ty) := fun c i => match c, i with
  | 0, 13 => some (10, .bool)
  | 0, 24 => some (13, .bool)
  | 0, 22 => some (13, .bool)
  | 0, 20 => some (13, .bool)
  | 0, 18 => some (13, .bool)
  | 0, 39 => some (19, .bool)
  | 0, 37 => some (19, .bool)
  | 0, 35 => some (19, .bool)
  | 0, 33 => some (19, .bool)
  | 0, 31 => some (19, .bool)
  | 0, 29 => some (19, .bool)
  | 0, 64 => some (39, .bool)
  | 0, 62 => some (39, .bool)
  | 0, 72 => some (45, .bool)
  | 0, 80 => some (50, .bool)
  | _, _ => none
def unr : Nat → Nat → Bool := fun _ _ => false
def ety : Nat → Nat → Option Ty := fun _ _ => none
def args : List PSh := [.c (.int .u8)]
def ta : List Ty := [(.int .u8)]
def res : List (Bool × List CSh) := [(false, [.str])]
def tr : List Ty := [.str]
def E0 (N : Nat) : SEnv := SEnv.base tab cuts ccut bcut unr ety
theorem ok0 (N : Nat) : EnvOK tab (E0 N) := base_ok tab cuts ccut bcut unr ety
end f57
def F57 (N : Nat) (x : Int) : Option (List UInt8) := fnRun (f57.E0 N) fuelW 57 f57.args f57.ta f57.res f57.tr 0 x
open f57 in
theorem F57_eq (N : Nat) (p0 : Int) : F57 N p0 =
  (bif (p0 == (1 : Int))
  then some [119, 110, 45]
  else (bif (p0 == (2 : Int))
    then some [119, 116, 45]
    else (bif (p0 == (3 : Int))
      then some [119, 98, 45]
      else (Option.bind ((bif (p0 == (4 : Int))
          then some true
          else some (p0 == (15 : Int)))) fun b0 =>
        (bif b0
        then some [119, 45, 45]
        else (Option.bind ((bif (p0 == (5 : Int))
            then some true
            else (Option.bind ((bif (p0 == (12 : Int))
                then some true
                else (Option.bind ((bif (p0 == (16 : Int))
                    then some true
                    else (Option.bind ((bif (p0 == (18 : Int))
                        then some true
                        else some (p0 == (21 : Int)))) fun b1 =>
                      some b1))) fun b2 =>
                  some b2))) fun b3 =>
              some b3))) fun b4 =>
          (bif b4
          then some [119, 114, 45]
          else (Option.bind ((bif (p0 == (6 : Int))
              then some true
              else (Option.bind ((bif (p0 == (7 : Int))
                  then some true
                  else (Option.bind ((bif (p0 == (8 : Int))
                      then some true
                      else (Option.bind ((bif (p0 == (9 : Int))
                          then some true
                          else (Option.bind ((bif (p0 == (10 : Int))
                              then some true
                              else (Option.bind ((bif (p0 == (11 : Int))
                                  then some true
                                  else some (p0 == (19 : Int)))) fun b5 =>
                                some b5))) fun b6 =>
                            some b6))) fun b7 =>
                        some b7))) fun b8 =>
                    some b8))) fun b9 =>
                some b9))) fun b10 =>
            (bif b10
            then some [119, 114, 114]
            else (bif (p0 == (13 : Int))
              then some [119, 114, 102]
              else (bif (p0 == (14 : Int))
                then some [114, 102, 114]
                else (bif (p0 == (17 : Int))
                  then some [114, 114, 45]
                  else (bif (p0 == (20 : Int))
                    then some [114, 114, 114]
                    else (bif (p0 == (22 : Int))
                      then some [105, 45, 45]
                      else (bif (p0 == (23 : Int))
                        then some [114, 105, 45]
                        else (Option.bind ((bif (p0 == (24 : Int))
                            then some true
                            else (Option.bind ((bif (p0 == (28 : Int))
                                then some true
                                else some (p0 == (32 : Int)))) fun b11 =>
                              some b11))) fun b12 =>
                          (bif b12
                          then some [114, 45, 45]
                          else (bif (p0 == (25 : Int))
                            then some [103, 99, 45]
                            else (Option.bind ((bif (p0 == (26 : Int))
                                then some true
                                else some (p0 == (27 : Int)))) fun b13 =>
                              (bif b13
                              then some [99, 45, 45]
                              else (bif (p0 == (29 : Int))
                                then some [119, 119, 45]
                                else (Option.bind ((bif (p0 == (30 : Int))
                                    then some true
                                    else some (p0 == (31 : Int)))) fun b14 =>
                                  (bif b14
                                  then some [45, 45, 45]
                                  else (bif (p0 == (33 : Int))
                                    then some [119, 114, 45]
                                    else (bif (p0 == (34 : Int))
                                      then some [101, 45, 45]
                                      else some ([] : List UInt8)))))))))))))))))))))))))) := by kernel_rfl
def c57 (N : Nat) : Sym.Callee := ⟨f57.args, f57.ta, f57.res, f57.tr, 0, F57 N⟩
theorem ok57 (N : Nat) : CalOK tab 57 (c57 N) := fn_ok (f57.ok0 N) fuelW 57 f57.args f57.ta f57.res f57.tr 0

/- wreckage/wreckageref06.Operands -/
namespace f58
def cuts : Nat → Nat → Option Outs := fun _ _ => none
def ccut : Nat → Nat → Option Outs := fun _ _ => none
def bcut : Nat → Nat → Option (Nat × Ty) := fun _ _ => none
def unr : Nat → Nat → Bool := fun _ _ => false
def ety : Nat → Nat → Option Ty := fun _ _ => none
def args : List PSh := [.agg [.int .u8, .int .i64, .int .i64, .int .i64]]
def ta : List Ty := [(.int .u8), (.int .i64), (.int .i64), (.int .i64)]
def res : List (Bool × List CSh) := [(true, [.int .i64, .int .i64, .int .i64])]
def tr : List Ty := [(.int .i64), (.int .i64), (.int .i64)]
def E0 (N : Nat) : SEnv := SEnv.base tab cuts ccut bcut unr ety
theorem ok0 (N : Nat) : EnvOK tab (E0 N) := base_ok tab cuts ccut bcut unr ety
end f58
def F58 (N : Nat) (x : (Int) × (Int) × (Int) × Int) : Option ((Int) × (Int) × Int) := fnRun (f58.E0 N) fuelW 58 f58.args f58.ta f58.res f58.tr 0 x
open f58 in
theorem F58_eq (N : Nat) (p0 : Int) (p1 : Int) (p2 : Int) (p3 : Int) : F58 N (p0, p1, p2, p3) =
  some (p1, p2, p3) := by kernel_rfl
def c58 (N : Nat) : Sym.Callee := ⟨f58.args, f58.ta, f58.res, f58.tr, 0, F58 N⟩
theorem ok58 (N : Nat) : CalOK tab 58 (c58 N) := fn_ok (f58.ok0 N) fuelW 58 f58.args f58.ta f58.res f58.tr 0

/- wreckage/wreckageref06.Fits -/
namespace f59
def cuts : Nat → Nat → Option Outs := fun _ _ => none
def ccut : Nat → Nat → Option Outs := fun _ _ => none
def bcut : Nat → Nat → Option (Nat × Ty) := fun c i => match c, i with
  | 0, 7 => some (10, .bool)
  | 0, 10 => some (4, .bool)
  | 0, 12 => some (19, .bool)
  | 0, 15 => some (4, .bool)
  | 0, 17 => some (28, .bool)
  | 0, 20 => some (4, .bool)
  | 0, 23 => some (4, .bool)
  | 0, 26 => some (4, .bool)
  | 0, 29 => some (4, .bool)
  | _, _ => none
def unr : Nat → Nat → Bool := fun _ _ => false
def ety : Nat → Nat → Option Ty := fun _ _ => none
def args : List PSh := [.c (.int .u8), .c (.int .i64)]
def ta : List Ty := [(.int .u8), (.int .i64)]
def res : List (Bool × List CSh) := [(false, [.bool])]
def tr : List Ty := [.bool]
def E0 (N : Nat) : SEnv := SEnv.base tab cuts ccut bcut unr ety
theorem ok0 (N : Nat) : EnvOK tab (E0 N) := base_ok tab cuts ccut bcut unr ety
end f59
def F59 (N : Nat) (x : (Int) × Int) : Option (Bool) := fnRun (f59.E0 N) fuelW 59 f59.args f59.ta f59.res f59.tr 0 x
open f59 in
theorem F59_eq (N : Nat) (p0 : Int) (p1 : Int) : F59 N (p0, p1) =
  (bif (p0 == (45 : Int))
  then some (p1 == (0 : Int))
  else (Option.bind ((bif (p0 == (119 : Int))
      then some true
      else some (p0 == (114 : Int)))) fun b0 =>
    (bif b0
    then (Option.bind ((bif (decide (p1 ≥ (0 : Int)))
        then some (decide (p1 < (16 : Int)))
        else some false)) fun b1 =>
      some b1)
    else (Option.bind ((bif (p0 == (103 : Int))
        then some true
        else some (p0 == (101 : Int)))) fun b2 =>
      (bif b2
      then (Option.bind ((bif (decide (p1 ≥ (-1 : Int)))
          then some (decide (p1 < (16 : Int)))
          else some false)) fun b3 =>
        some b3)
      else (Option.bind ((bif (p0 == (116 : Int))
          then some true
          else some (p0 == (99 : Int)))) fun b4 =>
        (bif b4
        then (Option.bind ((bif (decide (p1 ≥ (0 : Int)))
            then some (decide (p1 < (32 : Int)))
            else some false)) fun b5 =>
          some b5)
        else (bif (p0 == (98 : Int))
          then (Option.bind ((bif (decide (p1 ≥ (0 : Int)))
              then some (decide (p1 < (2 : Int)))
              else some false)) fun b6 =>
            some b6)
          else (bif (p0 == (102 : Int))
            then (Option.bind ((bif (decide (p1 ≥ (0 : Int)))
                then some (decide (p1 < (8 : Int)))
                else some false)) fun b7 =>
              some b7)
            else (bif (p0 == (105 : Int))
              then (Option.bind ((bif (decide (p1 ≥ (0 : Int)))
                  then some (decide (p1 < (200 : Int)))
                  else some false)) fun b8 =>
                some b8)
              else some true)))))))))) := by kernel_rfl
def c59 (N : Nat) : Sym.Callee := ⟨f59.args, f59.ta, f59.res, f59.tr, 0, F59 N⟩
theorem ok59 (N : Nat) : CalOK tab 59 (c59 N) := fn_ok (f59.ok0 N) fuelW 59 f59.args f59.ta f59.res f59.tr 0

/- wreckage/wreckageref06.Check -/
namespace f41
def cuts : Nat → Nat → Option Outs := fun _ _ => none
def ccut : Nat → Nat → Option Outs := fun _ _ => none
def bcut : Nat → Nat → Option (Nat × Ty) := fun c i => match c, i with
  | 0, 11 => some (25, .bool)
  | _, _ => none
def unr : Nat → Nat → Bool := fun c i => match c, i with
  | 0, 7 => true
  | _, _ => false
def ety : Nat → Nat → Option Ty := fun _ _ => none
def args : List PSh := [.agg [.int .u8, .int .i64, .int .i64, .int .i64]]
def ta : List Ty := [(.int .u8), (.int .i64), (.int .i64), (.int .i64)]
def res : List (Bool × List CSh) := [(false, [.int .i64])]
def tr : List Ty := [(.int .i64)]
def E0 (N : Nat) : SEnv := (((SEnv.base tab cuts ccut bcut unr ety).addCal 57 (c57 N)).addCal 58 (c58 N)).addCal 59 (c59 N)
theorem ok0 (N : Nat) : EnvOK tab (E0 N) := (((base_ok tab cuts ccut bcut unr ety).addCal (ok57 N)).addCal (ok58 N)).addCal (ok59 N)
end f41
def F41 (N : Nat) (x : (Int) × (Int) × (Int) × Int) : Option (Int) := fnRun (f41.E0 N) fuelW 41 f41.args f41.ta f41.res f41.tr 0 x
open f41 in
theorem F41_eq (N : Nat) (p0 : Int) (p1 : Int) (p2 : Int) (p3 : Int) : F41 N (p0, p1, p2, p3) =
  (Option.bind (F57 N p0) fun y0 =>
  (Option.bind (F58 N (p0, p1, p2, p3)) fun y1 =>
  (bif ((y0.length : Int) != (3 : Int))
  then some (8 : Int)
  else (Option.bind ((Option.bind (idx y0 (0 : Int)) fun c2 =>
      (Option.bind (F59 N ((c2.toNat : Int), y1.1)) fun y3 =>
      some (!y3)))) fun b4 =>
    (bif b4
    then some (8 : Int)
    else (Option.bind ((Option.bind (idx y0 (1 : Int)) fun c5 =>
        (Option.bind (F59 N ((c5.toNat : Int), y1.2.1)) fun y6 =>
        some (!y6)))) fun b7 =>
      (bif b7
      then some (8 : Int)
      else (Option.bind ((Option.bind (idx y0 (2 : Int)) fun c8 =>
          (Option.bind (F59 N ((c8.toNat : Int), y1.2.2)) fun y9 =>
          some (!y9)))) fun b10 =>
        (bif b10
        then some (8 : Int)
        else some (0 : Int)))))))))) := by kernel_rfl
def c41 (N : Nat) : Sym.Callee := ⟨f41.args, f41.ta, f41.res, f41.tr, 0, F41 N⟩
theorem ok41 (N : Nat) : CalOK tab 41 (c41 N) := fn_ok (f41.ok0 N) fuelW 41 f41.args f41.ta f41.res f41.tr 0

/- wreckage/wreckageref07.Check -/
namespace f16
def cuts : Nat → Nat → Option Outs := fun _ _ => none
def ccut : Nat → Nat → Option Outs := fun _ _ => none
def bcut : Nat → Nat → Option (Nat × Ty) := fun c i => match c, i with
  | 0, 1 => some (12, .bool)
  | 0, 11 => some (49, .bool)
  | _, _ => none
def unr : Nat → Nat → Bool := fun _ _ => false
def ety : Nat → Nat → Option Ty := fun _ _ => none
def args : List PSh := [.c (.sl TInstr .bor)]
def ta : List Ty := [(.sl TInstr)]
def res : List (Bool × List CSh) := [(false, [.int .i64])]
def tr : List Ty := [(.int .i64)]
def E0 (N : Nat) : SEnv := (SEnv.base tab cuts ccut bcut unr ety).addCal 41 (c41 N)
theorem ok0 (N : Nat) : EnvOK tab (E0 N) := (base_ok tab cuts ccut bcut unr ety).addCal (ok41 N)
def T0_6 : Tmpl := ⟨[(0, .c (.sl TInstr .bor)), (3, .c (.int .i64))], [], [], 1, [], 0, [(.sl TInstr), (.int .i64)]⟩
def O0_6 : Outs := [(.ret, ⟨[(2, .c (.int .i64))], [], [], 1, [], 0, [(.int .i64)]⟩), (.exit 0, ⟨[(0, .c (.sl TInstr .bor))], [], [], 1, [], 0, [(.sl TInstr)]⟩)]
def L0_6 (N : Nat) (k : Nat) (x : (List (Instr)) × Int) : Option ((Int) ⊕ (List (Instr))) := loopF (loopStep (E0 N) fuelW 0 6 (bodyAt t16 6) T0_6 O0_6) k x
theorem L0_6_succ (N : Nat) (k : Nat) (v1 : List (Instr)) (v2 : Int) : L0_6 N (k + 1) (v1, v2) =
  (bif (decide (v2 < (v1.length : Int)))
  then (Option.bind (idx v1 v2) fun x3 =>
    (Option.bind ((Option.bind (F41 N (x3.1, x3.2.1, x3.2.2.1, x3.2.2.2)) fun y4 =>
      (bif (y4 != (0 : Int))
      then some true
      else (bif (x3.1 == (22 : Int))
        then (bif (decide (x3.2.1 ≥ (v1.length : Int)))
          then some true
          else (bif (x3.1 == (23 : Int))
            then some (decide (x3.2.2.1 ≥ (v1.length : Int)))
            else some false))
        else (bif (x3.1 == (23 : Int))
          then some (decide (x3.2.2.1 ≥ (v1.length : Int)))
          else some false))))) fun b5 =>
    (bif b5
    then some (Sum.inl (8 : Int))
    else L0_6 N k (v1, (wi64 (v2 + (1 : Int)))))))
  else some (Sum.inr v1)) := by kernel_rfl
def E1 (N : Nat) : SEnv := (E0 N).addLoop N 0 6 T0_6 O0_6
theorem ok1 (N : Nat) : EnvOK tab (E1 N) := (ok0 N).addLoop N 0 6 T0_6 O0_6
end f16
def F16 (N : Nat) (x : List (Instr)) : Option (Int) := fnRun (f16.E1 N) fuelW 16 f16.args f16.ta f16.res f16.tr 0 x
open f16 in
theorem F16_eq (N : Nat) (p0 : List (Instr)) : F16 N p0 =
  (Option.bind ((bif (decide ((p0.length : Int) < (1 : Int)))
    then some true
    else some (decide ((p0.length : Int) > (200 : Int))))) fun b0 =>
  (bif b0
  then some (8 : Int)
  else (Option.bind (L0_6 N N (p0, (0 : Int))) fun y6 =>
    (match y6 with
    | .inl a7 => some a7
    | .inr b8 => (Option.bind (idx b8 (wi64 ((b8.length : Int) - (1 : Int)))) fun x9 =>
      (bif (!(x9.1 == (34 : Int) && (x9.2.1 == (-1 : Int) && (x9.2.2.1 == (0 : Int) && (x9.2.2.2 == (0 : Int) && true)))))
      then some (8 : Int)
      else some (0 : Int))))))) := by kernel_rfl
def c16 (N : Nat) : Sym.Callee := ⟨f16.args, f16.ta, f16.res, f16.tr, 0, F16 N⟩
theorem ok16 (N : Nat) : CalOK tab 16 (c16 N) := fn_ok (f16.ok1 N) fuelW 16 f16.args f16.ta f16.res f16.tr 0

/- wreckage/wreckagelaw07.fit -/
namespace f20
def cuts : Nat → Nat → Option Outs := fun _ _ => none
def ccut : Nat → Nat → Option Outs := fun _ _ => none
def bcut : Nat → Nat → Option (Nat × Ty) := fun c i => match c, i with
  | 0, 1 => some (2, .bool)
  | _, _ => none
def unr : Nat → Nat → Bool := fun _ _ => false
def ety : Nat → Nat → Option Ty := fun _ _ => none
def args : List PSh := [.c (.sl TInstr .bor)]
def ta : List Ty := [(.sl TInstr)]
def res : List (Bool × List CSh) := [(false, [.bool])]
def tr : List Ty := [.bool]
def E0 (N : Nat) : SEnv := ((SEnv.base tab cuts ccut bcut unr ety).addCal 10 (c10 N)).addCal 16 (c16 N)
theorem ok0 (N : Nat) : EnvOK tab (E0 N) := ((base_ok tab cuts ccut bcut unr ety).addCal (ok10 N)).addCal (ok16 N)
end f20
def F20 (N : Nat) (x : List (Instr)) : Option (Bool) := fnRun (f20.E0 N) fuelW 20 f20.args f20.ta f20.res f20.tr 0 x
open f20 in
theorem F20_eq (N : Nat) (p0 : List (Instr)) : F20 N p0 =
  (Option.bind ((Option.bind (F10 N p0) fun y0 =>
    (bif (!y0)
    then (Option.bind (F16 N p0) fun y1 =>
      some (y1 == (0 : Int)))
    else some false))) fun b2 =>
  some b2) := by kernel_rfl
def c20 (N : Nat) : Sym.Callee := ⟨f20.args, f20.ta, f20.res, f20.tr, 0, F20 N⟩
theorem ok20 (N : Nat) : CalOK tab 20 (c20 N) := fn_ok (f20.ok0 N) fuelW 20 f20.args f20.ta f20.res f20.tr 0

/- wreckage/wreckageref06.Touched -/
namespace f52
def cuts : Nat → Nat → Option Outs := fun _ _ => none
def ccut : Nat → Nat → Option Outs := fun _ _ => none
def bcut : Nat → Nat → Option (Nat × Ty) := fun c i => match c, i with
  | 0, 9 => some (33, .bool)
  | 0, 12 => some (55, .bool)
  | _, _ => none
def unr : Nat → Nat → Bool := fun c i => match c, i with
  | 0, 5 => true
  | _, _ => false
def ety : Nat → Nat → Option Ty := fun c d => match c, d with
  | 0, 38 => some (.int .i64)
  | 0, 60 => some (.int .i64)
  | _, _ => none
def args : List PSh := [.agg [.int .u8, .int .i64, .int .i64, .int .i64]]
def ta : List Ty := [(.int .u8), (.int .i64), (.int .i64), (.int .i64)]
def res : List (Bool × List CSh) := [(false, [.sl (.int .i64) .d]), (false, [.sl (.int .i64) .d])]
def tr : List Ty := [(.sl (.int .i64)), (.sl (.int .i64))]
def E0 (N : Nat) : SEnv := ((SEnv.base tab cuts ccut bcut unr ety).addCal 57 (c57 N)).addCal 58 (c58 N)
theorem ok0 (N : Nat) : EnvOK tab (E0 N) := ((base_ok tab cuts ccut bcut unr ety).addCal (ok57 N)).addCal (ok58 N)
end f52
def F52 (N : Nat) (x : (Int) × (Int) × (Int) × Int) : Option ((List (Int)) × List (Int)) := fnRun (f52.E0 N) fuelW 52 f52.args f52.ta f52.res f52.tr 0 x
open f52 in
theorem F52_eq (N : Nat) (p0 : Int) (p1 : Int) (p2 : Int) (p3 : Int) : F52 N (p0, p1, p2, p3) =
  (Option.bind (F57 N p0) fun y0 =>
  (Option.bind (F58 N (p0, p1, p2, p3)) fun y1 =>
  (Option.bind ((Option.bind (idx y0 (0 : Int)) fun c2 =>
    (bif ((c2.toNat : Int) == (114 : Int))
    then some (decide (y1.1 ≥ (0 : Int)))
    else (Option.bind (idx y0 (0 : Int)) fun c3 =>
      (bif ((c3.toNat : Int) == (101 : Int))
      then some (decide (y1.1 ≥ (0 : Int)))
      else some false))))) fun b4 =>
  (bif b4
  then (chk (room 1 8)
    ((Option.bind ((Option.bind (idx y0 (0 : Int)) fun c5 =>
      (bif ((c5.toNat : Int) == (119 : Int))
      then some (decide (y1.1 ≥ (0 : Int)))
      else (Option.bind (idx y0 (0 : Int)) fun c6 =>
        (bif ((c6.toNat : Int) == (103 : Int))
        then some (decide (y1.1 ≥ (0 : Int)))
        else some false))))) fun b7 =>
    (bif b7
    then (chk (room 1 8)
      ((Option.bind ((Option.bind (idx y0 (1 : Int)) fun c8 =>
        (bif ((c8.toNat : Int) == (114 : Int))
        then some (decide (y1.2.1 ≥ (0 : Int)))
        else (Option.bind (idx y0 (1 : Int)) fun c9 =>
          (bif ((c9.toNat : Int) == (101 : Int))
          then some (decide (y1.2.1 ≥ (0 : Int)))
          else some false))))) fun b10 =>
      (bif b10
      then (chk (room (1 + 1) 8)
        ((Option.bind ((Option.bind (idx y0 (1 : Int)) fun c11 =>
          (bif ((c11.toNat : Int) == (119 : Int))
          then some (decide (y1.2.1 ≥ (0 : Int)))
          else (Option.bind (idx y0 (1 : Int)) fun c12 =>
            (bif ((c12.toNat : Int) == (103 : Int))
            then some (decide (y1.2.1 ≥ (0 : Int)))
            else some false))))) fun b13 =>
        (bif b13
        then (chk (room (1 + 1) 8)
          ((Option.bind ((Option.bind (idx y0 (2 : Int)) fun c14 =>
            (bif ((c14.toNat : Int) == (114 : Int))
            then some (decide (y1.2.2 ≥ (0 : Int)))
            else (Option.bind (idx y0 (2 : Int)) fun c15 =>
              (bif ((c15.toNat : Int) == (101 : Int))
              then some (decide (y1.2.2 ≥ (0 : Int)))
              else some false))))) fun b16 =>
          (bif b16
          then (chk (room (2 + 1) 8)
            ((Option.bind ((Option.bind (idx y0 (2 : Int)) fun c17 =>
              (bif ((c17.toNat : Int) == (119 : Int))
              then some (decide (y1.2.2 ≥ (0 : Int)))
              else (Option.bind (idx y0 (2 : Int)) fun c18 =>
                (bif ((c18.toNat : Int) == (103 : Int))
                then some (decide (y1.2.2 ≥ (0 : Int)))
                else some false))))) fun b19 =>
            (bif b19
            then (chk (room (2 + 1) 8)
              (some ((([y1.1] ++ [y1.2.1]) ++ [y1.2.2]), (([y1.1] ++ [y1.2.1]) ++ [y1.2.2]))))
            else some ((([y1.1] ++ [y1.2.1]) ++ [y1.2.2]), ([y1.1] ++ [y1.2.1]))))))
          else (Option.bind ((Option.bind (idx y0 (2 : Int)) fun c20 =>
              (bif ((c20.toNat : Int) == (119 : Int))
              then some (decide (y1.2.2 ≥ (0 : Int)))
              else (Option.bind (idx y0 (2 : Int)) fun c21 =>
                (bif ((c21.toNat : Int) == (103 : Int))
                then some (decide (y1.2.2 ≥ (0 : Int)))
                else some false))))) fun b22 =>
            (bif b22
            then (chk (room (2 + 1) 8)
              (some (([y1.1] ++ [y1.2.1]), (([y1.1] ++ [y1.2.1]) ++ [y1.2.2]))))
            else some (([y1.1] ++ [y1.2.1]), ([y1.1] ++ [y1.2.1]))))))))
        else (Option.bind ((Option.bind (idx y0 (2 : Int)) fun c23 =>
            (bif ((c23.toNat : Int) == (114 : Int))
            then some (decide (y1.2.2 ≥ (0 : Int)))
            else (Option.bind (idx y0 (2 : Int)) fun c24 =>
              (bif ((c24.toNat : Int) == (101 : Int))
              then some (decide (y1.2.2 ≥ (0 : Int)))
              else some false))))) fun b25 =>
          (bif b25
          then (chk (room (2 + 1) 8)
            ((Option.bind ((Option.bind (idx y0 (2 : Int)) fun c26 =>
              (bif ((c26.toNat : Int) == (119 : Int))
              then some (decide (y1.2.2 ≥ (0 : Int)))
              else (Option.bind (idx y0 (2 : Int)) fun c27 =>
                (bif ((c27.toNat : Int) == (103 : Int))
                then some (decide (y1.2.2 ≥ (0 : Int)))
                else some false))))) fun b28 =>
            (bif b28
            then (chk (room (1 + 1) 8)
              (some ((([y1.1] ++ [y1.2.1]) ++ [y1.2.2]), ([y1.1] ++ [y1.2.2]))))
            else some ((([y1.1] ++ [y1.2.1]) ++ [y1.2.2]), [y1.1])))))
          else (Option.bind ((Option.bind (idx y0 (2 : Int)) fun c29 =>
              (bif ((c29.toNat : Int) == (119 : Int))
              then some (decide (y1.2.2 ≥ (0 : Int)))
              else (Option.bind (idx y0 (2 : Int)) fun c30 =>
                (bif ((c30.toNat : Int) == (103 : Int))
                then some (decide (y1.2.2 ≥ (0 : Int)))
                else some false))))) fun b31 =>
            (bif b31
            then (chk (room (1 + 1) 8)
              (some (([y1.1] ++ [y1.2.1]), ([y1.1] ++ [y1.2.2]))))
            else some (([y1.1] ++ [y1.2.1]), [y1.1])))))))))
      else (Option.bind ((Option.bind (idx y0 (1 : Int)) fun c32 =>
          (bif ((c32.toNat : Int) == (119 : Int))
          then some (decide (y1.2.1 ≥ (0 : Int)))
          else (Option.bind (idx y0 (1 : Int)) fun c33 =>
            (bif ((c33.toNat : Int) == (103 : Int))
            then some (decide (y1.2.1 ≥ (0 : Int)))
            else some false))))) fun b34 =>
        (bif b34
        then (chk (room (1 + 1) 8)
          ((Option.bind ((Option.bind (idx y0 (2 : Int)) fun c35 =>
            (bif ((c35.toNat : Int) == (114 : Int))
            then some (decide (y1.2.2 ≥ (0 : Int)))
            else (Option.bind (idx y0 (2 : Int)) fun c36 =>
              (bif ((c36.toNat : Int) == (101 : Int))
              then some (decide (y1.2.2 ≥ (0 : Int)))
              else some false))))) fun b37 =>
          (bif b37
          then (chk (room (1 + 1) 8)
            ((Option.bind ((Option.bind (idx y0 (2 : Int)) fun c38 =>
              (bif ((c38.toNat : Int) == (119 : Int))
              then some (decide (y1.2.2 ≥ (0 : Int)))
              else (Option.bind (idx y0 (2 : Int)) fun c39 =>
                (bif ((c39.toNat : Int) == (103 : Int))
                then some (decide (y1.2.2 ≥ (0 : Int)))
                else some false))))) fun b40 =>
            (bif b40
            then (chk (room (2 + 1) 8)
              (some (([y1.1] ++ [y1.2.2]), (([y1.1] ++ [y1.2.1]) ++ [y1.2.2]))))
            else some (([y1.1] ++ [y1.2.2]), ([y1.1] ++ [y1.2.1]))))))
          else (Option.bind ((Option.bind (idx y0 (2 : Int)) fun c41 =>
              (bif ((c41.toNat : Int) == (119 : Int))
              then some (decide (y1.2.2 ≥ (0 : Int)))
              else (Option.bind (idx y0 (2 : Int)) fun c42 =>
                (bif ((c42.toNat : Int) == (103 : Int))
                then some (decide (y1.2.2 ≥ (0 : Int)))
                else some false))))) fun b43 =>
            (bif b43
            then (chk (room (2 + 1) 8)
              (some ([y1.1], (([y1.1] ++ [y1.2.1]) ++ [y1.2.2]))))
            else some ([y1.1], ([y1.1] ++ [y1.2.1]))))))))
        else (Option.bind ((Option.bind (idx y0 (2 : Int)) fun c44 =>
            (bif ((c44.toNat : Int) == (114 : Int))
            then some (decide (y1.2.2 ≥ (0 : Int)))
            else (Option.bind (idx y0 (2 : Int)) fun c45 =>
              (bif ((c45.toNat : Int) == (101 : Int))
              then some (decide (y1.2.2 ≥ (0 : Int)))
              else some false))))) fun b46 =>
          (bif b46
          then (chk (room (1 + 1) 8)
            ((Option.bind ((Option.bind (idx y0 (2 : Int)) fun c47 =>
              (bif ((c47.toNat : Int) == (119 : Int))
              then some (decide (y1.2.2 ≥ (0 : Int)))
              else (Option.bind (idx y0 (2 : Int)) fun c48 =>
                (bif ((c48.toNat : Int) == (103 : Int))
                then some (decide (y1.2.2 ≥ (0 : Int)))
                else some false))))) fun b49 =>
            (bif b49
            then (chk (room (1 + 1) 8)
              (some (([y1.1] ++ [y1.2.2]), ([y1.1] ++ [y1.2.2]))))
            else some (([y1.1] ++ [y1.2.2]), [y1.1])))))
          else (Option.bind ((Option.bind (idx y0 (2 : Int)) fun c50 =>
              (bif ((c50.toNat : Int) == (119 : Int))
              then some (decide (y1.2.2 ≥ (0 : Int)))
              else (Option.bind (idx y0 (2 : Int)) fun c51 =>
                (bif ((c51.toNat : Int) == (103 : Int))
                then some (decide (y1.2.2 ≥ (0 : Int)))
                else some false))))) fun b52 =>
            (bif b52
            then (chk (room (1 + 1) 8)
              (some ([y1.1], ([y1.1] ++ [y1.2.2]))))
            else some ([y1.1], [y1.1])))))))))))
    else (Option.bind ((Option.bind (idx y0 (1 : Int)) fun c53 =>
        (bif ((c53.toNat : Int) == (114 : Int))
        then some (decide (y1.2.1 ≥ (0 : Int)))
        else (Option.bind (idx y0 (1 : Int)) fun c54 =>
          (bif ((c54.toNat : Int) == (101 : Int))
          then some (decide (y1.2.1 ≥ (0 : Int)))
          else some false))))) fun b55 =>
      (bif b55
      then (chk (room (1 + 1) 8)
        ((Option.bind ((Option.bind (idx y0 (1 : Int)) fun c56 =>
          (bif ((c56.toNat : Int) == (119 : Int))
          then some (decide (y1.2.1 ≥ (0 : Int)))
          else (Option.bind (idx y0 (1 : Int)) fun c57 =>
            (bif ((c57.toNat : Int) == (103 : Int))
            then some (decide (y1.2.1 ≥ (0 : Int)))
            else some false))))) fun b58 =>
        (bif b58
        then (chk (room 1 8)
          ((Option.bind ((Option.bind (idx y0 (2 : Int)) fun c59 =>
            (bif ((c59.toNat : Int) == (114 : Int))
            then some (decide (y1.2.2 ≥ (0 : Int)))
            else (Option.bind (idx y0 (2 : Int)) fun c60 =>
              (bif ((c60.toNat : Int) == (101 : Int))
              then some (decide (y1.2.2 ≥ (0 : Int)))
              else some false))))) fun b61 =>
          (bif b61
          then (chk (room (2 + 1) 8)
            ((Option.bind ((Option.bind (idx y0 (2 : Int)) fun c62 =>
              (bif ((c62.toNat : Int) == (119 : Int))
              then some (decide (y1.2.2 ≥ (0 : Int)))
              else (Option.bind (idx y0 (2 : Int)) fun c63 =>
                (bif ((c63.toNat : Int) == (103 : Int))
                then some (decide (y1.2.2 ≥ (0 : Int)))
                else some false))))) fun b64 =>
            (bif b64
            then (chk (room (1 + 1) 8)
              (some ((([y1.1] ++ [y1.2.1]) ++ [y1.2.2]), ([y1.2.1] ++ [y1.2.2]))))
            else some ((([y1.1] ++ [y1.2.1]) ++ [y1.2.2]), [y1.2.1])))))
          else (Option.bind ((Option.bind (idx y0 (2 : Int)) fun c65 =>
              (bif ((c65.toNat : Int) == (119 : Int))
              then some (decide (y1.2.2 ≥ (0 : Int)))
              else (Option.bind (idx y0 (2 : Int)) fun c66 =>
                (bif ((c66.toNat : Int) == (103 : Int))
                then some (decide (y1.2.2 ≥ (0 : Int)))
                else some false))))) fun b67 =>
            (bif b67
            then (chk (room (1 + 1) 8)
              (some (([y1.1] ++ [y1.2.1]), ([y1.2.1] ++ [y1.2.2]))))
            else some (([y1.1] ++ [y1.2.1]), [y1.2.1])))))))
        else (Option.bind ((Option.bind (idx y0 (2 : Int)) fun c68 =>
            (bif ((c68.toNat : Int) == (114 : Int))
            then some (decide (y1.2.2 ≥ (0 : Int)))
            else (Option.bind (idx y0 (2 : Int)) fun c69 =>
              (bif ((c69.toNat : Int) == (101 : Int))
              then some (decide (y1.2.2 ≥ (0 : Int)))
              else some false))))) fun b70 =>
          (bif b70
          then (chk (room (2 + 1) 8)
            ((Option.bind ((Option.bind (idx y0 (2 : Int)) fun c71 =>
              (bif ((c71.toNat : Int) == (119 : Int))
              then some (decide (y1.2.2 ≥ (0 : Int)))
              else (Option.bind (idx y0 (2 : Int)) fun c72 =>
                (bif ((c72.toNat : Int) == (103 : Int))
                then some (decide (y1.2.2 ≥ (0 : Int)))
                else some false))))) fun b73 =>
            (bif b73
            then (chk (room 1 8)
              (some ((([y1.1] ++ [y1.2.1]) ++ [y1.2.2]), [y1.2.2])))
            else some ((([y1.1] ++ [y1.2.1]) ++ [y1.2.2]), [])))))
          else (Option.bind ((Option.bind (idx y0 (2 : Int)) fun c74 =>
              (bif ((c74.toNat : Int) == (119 : Int))
              then some (decide (y1.2.2 ≥ (0 : Int)))
              else (Option.bind (idx y0 (2 : Int)) fun c75 =>
                (bif ((c75.toNat : Int) == (103 : Int))
                then some (decide (y1.2.2 ≥ (0 : Int)))
                else some false))))) fun b76 =>
            (bif b76
            then (chk (room 1 8)
              (some (([y1.1] ++ [y1.2.1]), [y1.2.2])))
            else some (([y1.1] ++ [y1.2.1]), [])))))))))
      else (Option.bind ((Option.bind (idx y0 (1 : Int)) fun c77 =>
          (bif ((c77.toNat : Int) == (119 : Int))
          then some (decide (y1.2.1 ≥ (0 : Int)))
          else (Option.bind (idx y0 (1 : Int)) fun c78 =>
            (bif ((c78.toNat : Int) == (103 : Int))
            then some (decide (y1.2.1 ≥ (0 : Int)))
            else some false))))) fun b79 =>
        (bif b79
        then (chk (room 1 8)
          ((Option.bind ((Option.bind (idx y0 (2 : Int)) fun c80 =>
            (bif ((c80.toNat : Int) == (114 : Int))
            then some (decide (y1.2.2 ≥ (0 : Int)))
            else (Option.bind (idx y0 (2 : Int)) fun c81 =>
              (bif ((c81.toNat : Int) == (101 : Int))
              then some (decide (y1.2.2 ≥ (0 : Int)))
              else some false))))) fun b82 =>
          (bif b82
          then (chk (room (1 + 1) 8)
            ((Option.bind ((Option.bind (idx y0 (2 : Int)) fun c83 =>
              (bif ((c83.toNat : Int) == (119 : Int))
              then some (decide (y1.2.2 ≥ (0 : Int)))
              else (Option.bind (idx y0 (2 : Int)) fun c84 =>
                (bif ((c84.toNat : Int) == (103 : Int))
                then some (decide (y1.2.2 ≥ (0 : Int)))
                else some false))))) fun b85 =>
            (bif b85
            then (chk (room (1 + 1) 8)
              (some (([y1.1] ++ [y1.2.2]), ([y1.2.1] ++ [y1.2.2]))))
            else some (([y1.1] ++ [y1.2.2]), [y1.2.1])))))
          else (Option.bind ((Option.bind (idx y0 (2 : Int)) fun c86 =>
              (bif ((c86.toNat : Int) == (119 : Int))
              then some (decide (y1.2.2 ≥ (0 : Int)))
              else (Option.bind (idx y0 (2 : Int)) fun c87 =>
                (bif ((c87.toNat : Int) == (103 : Int))
                then some (decide (y1.2.2 ≥ (0 : Int)))
                else some false))))) fun b88 =>
            (bif b88
            then (chk (room (1 + 1) 8)
              (some ([y1.1], ([y1.2.1] ++ [y1.2.2]))))
            else some ([y1.1], [y1.2.1])))))))
        else (Option.bind ((Option.bind (idx y0 (2 : Int)) fun c89 =>
            (bif ((c89.toNat : Int) == (114 : Int))
            then some (decide (y1.2.2 ≥ (0 : Int)))
            else (Option.bind (idx y0 (2 : Int)) fun c90 =>
              (bif ((c90.toNat : Int) == (101 : Int))
              then some (decide (y1.2.2 ≥ (0 : Int)))
              else some false))))) fun b91 =>
          (bif b91
          then (chk (room (1 + 1) 8)
            ((Option.bind ((Option.bind (idx y0 (2 : Int)) fun c92 =>
              (bif ((c92.toNat : Int) == (119 : Int))
              then some (decide (y1.2.2 ≥ (0 : Int)))
              else (Option.bind (idx y0 (2 : Int)) fun c93 =>
                (bif ((c93.toNat : Int) == (103 : Int))
                then some (decide (y1.2.2 ≥ (0 : Int)))
                else some false))))) fun b94 =>
            (bif b94
            then (chk (room 1 8)
              (some (([y1.1] ++ [y1.2.2]), [y1.2.2])))
            else some (([y1.1] ++ [y1.2.2]), [])))))
          else (Option.bind ((Option.bind (idx y0 (2 : Int)) fun c95 =>
              (bif ((c95.toNat : Int) == (119 : Int))
              then some (decide (y1.2.2 ≥ (0 : Int)))
              else (Option.bind (idx y0 (2 : Int)) fun c96 =>
                (bif ((c96.toNat : Int) == (103 : Int))
                then some (decide (y1.2.2 ≥ (0 : Int)))
                else some false))))) fun b97 =>
            (bif b97
            then (chk (room 1 8)
              (some ([y1.1], [y1.2.2])))
            else some ([y1.1], [])))))))))))))
  else (Option.bind ((Option.bind (idx y0 (0 : Int)) fun c98 =>
      (bif ((c98.toNat : Int) == (119 : Int))
      then some (decide (y1.1 ≥ (0 : Int)))
      else (Option.bind (idx y0 (0 : Int)) fun c99 =>
        (bif ((c99.toNat : Int) == (103 : Int))
        then some (decide (y1.1 ≥ (0 : Int)))
        else some false))))) fun b100 =>
    (bif b100
    then (chk (room 1 8)
      ((Option.bind ((Option.bind (idx y0 (1 : Int)) fun c101 =>
        (bif ((c101.toNat : Int) == (114 : Int))
        then some (decide (y1.2.1 ≥ (0 : Int)))
        else (Option.bind (idx y0 (1 : Int)) fun c102 =>
          (bif ((c102.toNat : Int) == (101 : Int))
          then some (decide (y1.2.1 ≥ (0 : Int)))
          else some false))))) fun b103 =>
      (bif b103
      then (chk (room 1 8)
        ((Option.bind ((Option.bind (idx y0 (1 : Int)) fun c104 =>
          (bif ((c104.toNat : Int) == (119 : Int))
          then some (decide (y1.2.1 ≥ (0 : Int)))
          else (Option.bind (idx y0 (1 : Int)) fun c105 =>
            (bif ((c105.toNat : Int) == (103 : Int))
            then some (decide (y1.2.1 ≥ (0 : Int)))
            else some false))))) fun b106 =>
        (bif b106
        then (chk (room (1 + 1) 8)
          ((Option.bind ((Option.bind (idx y0 (2 : Int)) fun c107 =>
            (bif ((c107.toNat : Int) == (114 : Int))
            then some (decide (y1.2.2 ≥ (0 : Int)))
            else (Option.bind (idx y0 (2 : Int)) fun c108 =>
              (bif ((c108.toNat : Int) == (101 : Int))
              then some (decide (y1.2.2 ≥ (0 : Int)))
              else some false))))) fun b109 =>
          (bif b109
          then (chk (room (1 + 1) 8)
            ((Option.bind ((Option.bind (idx y0 (2 : Int)) fun c110 =>
              (bif ((c110.toNat : Int) == (119 : Int))
              then some (decide (y1.2.2 ≥ (0 : Int)))
              else (Option.bind (idx y0 (2 : Int)) fun c111 =>
                (bif ((c111.toNat : Int) == (103 : Int))
                then some (decide (y1.2.2 ≥ (0 : Int)))
                else some false))))) fun b112 =>
            (bif b112
            then (chk (room (2 + 1) 8)
              (some (([y1.2.1] ++ [y1.2.2]), (([y1.1] ++ [y1.2.1]) ++ [y1.2.2]))))
            else some (([y1.2.1] ++ [y1.2.2]), ([y1.1] ++ [y1.2.1]))))))
          else (Option.bind ((Option.bind (idx y0 (2 : Int)) fun c113 =>
              (bif ((c113.toNat : Int) == (119 : Int))
              then some (decide (y1.2.2 ≥ (0 : Int)))
              else (Option.bind (idx y0 (2 : Int)) fun c114 =>
                (bif ((c114.toNat : Int) == (103 : Int))
                then some (decide (y1.2.2 ≥ (0 : Int)))
                else some false))))) fun b115 =>
            (bif b115
            then (chk (room (2 + 1) 8)
              (some ([y1.2.1], (([y1.1] ++ [y1.2.1]) ++ [y1.2.2]))))
            else some ([y1.2.1], ([y1.1] ++ [y1.2.1]))))))))
        else (Option.bind ((Option.bind (idx y0 (2 : Int)) fun c116 =>
            (bif ((c116.toNat : Int) == (114 : Int))
            then some (decide (y1.2.2 ≥ (0 : Int)))
            else (Option.bind (idx y0 (2 : Int)) fun c117 =>
              (bif ((c117.toNat : Int) == (101 : Int))
              then some (decide (y1.2.2 ≥ (0 : Int)))
              else some false))))) fun b118 =>
          (bif b118
          then (chk (room (1 + 1) 8)
            ((Option.bind ((Option.bind (idx y0 (2 : Int)) fun c119 =>
              (bif ((c119.toNat : Int) == (119 : Int))
              then some (decide (y1.2.2 ≥ (0 : Int)))
              else (Option.bind (idx y0 (2 : Int)) fun c120 =>
                (bif ((c120.toNat : Int) == (103 : Int))
                then some (decide (y1.2.2 ≥ (0 : Int)))
                else some false))))) fun b121 =>
            (bif b121
            then (chk (room (1 + 1) 8)
              (some (([y1.2.1] ++ [y1.2.2]), ([y1.1] ++ [y1.2.2]))))
            else some (([y1.2.1] ++ [y1.2.2]), [y1.1])))))
          else (Option.bind ((Option.bind (idx y0 (2 : Int)) fun c122 =>
              (bif ((c122.toNat : Int) == (119 : Int))
              then some (decide (y1.2.2 ≥ (0 : Int)))
              else (Option.bind (idx y0 (2 : Int)) fun c123 =>
                (bif ((c123.toNat : Int) == (103 : Int))
                then some (decide (y1.2.2 ≥ (0 : Int)))
                else some false))))) fun b124 =>
            (bif b124
            then (chk (room (1 + 1) 8)
              (some ([y1.2.1], ([y1.1] ++ [y1.2.2]))))
            else some ([y1.2.1], [y1.1])))))))))
      else (Option.bind ((Option.bind (idx y0 (1 : Int)) fun c125 =>
          (bif ((c125.toNat : Int) == (119 : Int))
          then some (decide (y1.2.1 ≥ (0 : Int)))
          else (Option.bind (idx y0 (1 : Int)) fun c126 =>
            (bif ((c126.toNat : Int) == (103 : Int))
            then some (decide (y1.2.1 ≥ (0 : Int)))
            else some false))))) fun b127 =>
        (bif b127
        then (chk (room (1 + 1) 8)
          ((Option.bind ((Option.bind (idx y0 (2 : Int)) fun c128 =>
            (bif ((c128.toNat : Int) == (114 : Int))
            then some (decide (y1.2.2 ≥ (0 : Int)))
            else (Option.bind (idx y0 (2 : Int)) fun c129 =>
              (bif ((c129.toNat : Int) == (101 : Int))
              then some (decide (y1.2.2 ≥ (0 : Int)))
              else some false))))) fun b130 =>
          (bif b130
          then (chk (room 1 8)
            ((Option.bind ((Option.bind (idx y0 (2 : Int)) fun c131 =>
              (bif ((c131.toNat : Int) == (119 : Int))
              then some (decide (y1.2.2 ≥ (0 : Int)))
              else (Option.bind (idx y0 (2 : Int)) fun c132 =>
                (bif ((c132.toNat : Int) == (103 : Int))
                then some (decide (y1.2.2 ≥ (0 : Int)))
                else some false))))) fun b133 =>
            (bif b133
            then (chk (room (2 + 1) 8)
              (some ([y1.2.2], (([y1.1] ++ [y1.2.1]) ++ [y1.2.2]))))
            else some ([y1.2.2], ([y1.1] ++ [y1.2.1]))))))
          else (Option.bind ((Option.bind (idx y0 (2 : Int)) fun c134 =>
              (bif ((c134.toNat : Int) == (119 : Int))
              then some (decide (y1.2.2 ≥ (0 : Int)))
              else (Option.bind (idx y0 (2 : Int)) fun c135 =>
                (bif ((c135.toNat : Int) == (103 : Int))
                then some (decide (y1.2.2 ≥ (0 : Int)))
                else some false))))) fun b136 =>
            (bif b136
            then (chk (room (2 + 1) 8)
              (some ([], (([y1.1] ++ [y1.2.1]) ++ [y1.2.2]))))
            else some ([], ([y1.1] ++ [y1.2.1]))))))))
        else (Option.bind ((Option.bind (idx y0 (2 : Int)) fun c137 =>
            (bif ((c137.toNat : Int) == (114 : Int))
            then some (decide (y1.2.2 ≥ (0 : Int)))
            else (Option.bind (idx y0 (2 : Int)) fun c138 =>
              (bif ((c138.toNat : Int) == (101 : Int))
              then some (decide (y1.2.2 ≥ (0 : Int)))
              else some false))))) fun b139 =>
          (bif b139
          then (chk (room 1 8)
            ((Option.bind ((Option.bind (idx y0 (2 : Int)) fun c140 =>
              (bif ((c140.toNat : Int) == (119 : Int))
              then some (decide (y1.2.2 ≥ (0 : Int)))
              else (Option.bind (idx y0 (2 : Int)) fun c141 =>
                (bif ((c141.toNat : Int) == (103 : Int))
                then some (decide (y1.2.2 ≥ (0 : Int)))
                else some false))))) fun b142 =>
            (bif b142
            then (chk (room (1 + 1) 8)
              (some ([y1.2.2], ([y1.1] ++ [y1.2.2]))))
            else some ([y1.2.2], [y1.1])))))
          else (Option.bind ((Option.bind (idx y0 (2 : Int)) fun c143 =>
              (bif ((c143.toNat : Int) == (119 : Int))
              then some (decide (y1.2.2 ≥ (0 : Int)))
              else (Option.bind (idx y0 (2 : Int)) fun c144 =>
                (bif ((c144.toNat : Int) == (103 : Int))
                then some (decide (y1.2.2 ≥ (0 : Int)))
                else some false))))) fun b145 =>
            (bif b145
            then (chk (room (1 + 1) 8)
              (some ([], ([y1.1] ++ [y1.2.2]))))
            else some ([], [y1.1])))))))))))
    else (Option.bind ((Option.bind (idx y0 (1 : Int)) fun c146 =>
        (bif ((c146.toNat : Int) == (114 : Int))
        then some (decide (y1.2.1 ≥ (0 : Int)))
        else (Option.bind (idx y0 (1 : Int)) fun c147 =>
          (bif ((c147.toNat : Int) == (101 : Int))
          then some (decide (y1.2.1 ≥ (0 : Int)))
          else some false))))) fun b148 =>
      (bif b148
      then (chk (room 1 8)
        ((Option.bind ((Option.bind (idx y0 (1 : Int)) fun c149 =>
          (bif ((c149.toNat : Int) == (119 : Int))
          then some (decide (y1.2.1 ≥ (0 : Int)))
          else (Option.bind (idx y0 (1 : Int)) fun c150 =>
            (bif ((c150.toNat : Int) == (103 : Int))
            then some (decide (y1.2.1 ≥ (0 : Int)))
            else some false))))) fun b151 =>
        (bif b151
        then (chk (room 1 8)
          ((Option.bind ((Option.bind (idx y0 (2 : Int)) fun c152 =>
            (bif ((c152.toNat : Int) == (114 : Int))
            then some (decide (y1.2.2 ≥ (0 : Int)))
            else (Option.bind (idx y0 (2 : Int)) fun c153 =>
              (bif ((c153.toNat : Int) == (101 : Int))
              then some (decide (y1.2.2 ≥ (0 : Int)))
              else some false))))) fun b154 =>
          (bif b154
          then (chk (room (1 + 1) 8)
            ((Option.bind ((Option.bind (idx y0 (2 : Int)) fun c155 =>
              (bif ((c155.toNat : Int) == (119 : Int))
              then some (decide (y1.2.2 ≥ (0 : Int)))
              else (Option.bind (idx y0 (2 : Int)) fun c156 =>
                (bif ((c156.toNat : Int) == (103 : Int))
                then some (decide (y1.2.2 ≥ (0 : Int)))
                else some false))))) fun b157 =>
            (bif b157
            then (chk (room (1 + 1) 8)
              (some (([y1.2.1] ++ [y1.2.2]), ([y1.2.1] ++ [y1.2.2]))))
            else some (([y1.2.1] ++ [y1.2.2]), [y1.2.1])))))
          else (Option.bind ((Option.bind (idx y0 (2 : Int)) fun c158 =>
              (bif ((c158.toNat : Int) == (119 : Int))
              then some (decide (y1.2.2 ≥ (0 : Int)))
              else (Option.bind (idx y0 (2 : Int)) fun c159 =>
                (bif ((c159.toNat : Int) == (103 : Int))
                then some (decide (y1.2.2 ≥ (0 : Int)))
                else some false))))) fun b160 =>
            (bif b160
            then (chk (room (1 + 1) 8)
              (some ([y1.2.1], ([y1.2.1] ++ [y1.2.2]))))
            else some ([y1.2.1], [y1.2.1])))))))
        else (Option.bind ((Option.bind (idx y0 (2 : Int)) fun c161 =>
            (bif ((c161.toNat : Int) == (114 : Int))
            then some (decide (y1.2.2 ≥ (0 : Int)))
            else (Option.bind (idx y0 (2 : Int)) fun c162 =>
              (bif ((c162.toNat : Int) == (101 : Int))
              then some (decide (y1.2.2 ≥ (0 : Int)))
              else some false))))) fun b163 =>
          (bif b163
          then (chk (room (1 + 1) 8)
            ((Option.bind ((Option.bind (idx y0 (2 : Int)) fun c164 =>
              (bif ((c164.toNat : Int) == (119 : Int))
              then some (decide (y1.2.2 ≥ (0 : Int)))
              else (Option.bind (idx y0 (2 : Int)) fun c165 =>
                (bif ((c165.toNat : Int) == (103 : Int))
                then some (decide (y1.2.2 ≥ (0 : Int)))
                else some false))))) fun b166 =>
            (bif b166
            then (chk (room 1 8)
              (some (([y1.2.1] ++ [y1.2.2]), [y1.2.2])))
            else some (([y1.2.1] ++ [y1.2.2]), [])))))
          else (Option.bind ((Option.bind (idx y0 (2 : Int)) fun c167 =>
              (bif ((c167.toNat : Int) == (119 : Int))
              then some (decide (y1.2.2 ≥ (0 : Int)))
              else (Option.bind (idx y0 (2 : Int)) fun c168 =>
                (bif ((c168.toNat : Int) == (103 : Int))
                then some (decide (y1.2.2 ≥ (0 : Int)))
                else some false))))) fun b169 =>
            (bif b169
            then (chk (room 1 8)
              (some ([y1.2.1], [y1.2.2])))
            else some ([y1.2.1], [])))))))))
      else (Option.bind ((Option.bind (idx y0 (1 : Int)) fun c170 =>
          (bif ((c170.toNat : Int) == (119 : Int))
          then some (decide (y1.2.1 ≥ (0 : Int)))
          else (Option.bind (idx y0 (1 : Int)) fun c171 =>
            (bif ((c171.toNat : Int) == (103 : Int))
            then some (decide (y1.2.1 ≥ (0 : Int)))
            else some false))))) fun b172 =>
        (bif b172
        then (chk (room 1 8)
          ((Option.bind ((Option.bind (idx y0 (2 : Int)) fun c173 =>
            (bif ((c173.toNat : Int) == (114 : Int))
            then some (decide (y1.2.2 ≥ (0 : Int)))
            else (Option.bind (idx y0 (2 : Int)) fun c174 =>
              (bif ((c174.toNat : Int) == (101 : Int))
              then some (decide (y1.2.2 ≥ (0 : Int)))
              else some false))))) fun b175 =>
          (bif b175
          then (chk (room 1 8)
            ((Option.bind ((Option.bind (idx y0 (2 : Int)) fun c176 =>
              (bif ((c176.toNat : Int) == (119 : Int))
              then some (decide (y1.2.2 ≥ (0 : Int)))
              else (Option.bind (idx y0 (2 : Int)) fun c177 =>
                (bif ((c177.toNat : Int) == (103 : Int))
                then some (decide (y1.2.2 ≥ (0 : Int)))
                else some false))))) fun b178 =>
            (bif b178
            then (chk (room (1 + 1) 8)
              (some ([y1.2.2], ([y1.2.1] ++ [y1.2.2]))))
            else some ([y1.2.2], [y1.2.1])))))
          else (Option.bind ((Option.bind (idx y0 (2 : Int)) fun c179 =>
              (bif ((c179.toNat : Int) == (119 : Int))
              then some (decide (y1.2.2 ≥ (0 : Int)))
              else (Option.bind (idx y0 (2 : Int)) fun c180 =>
                (bif ((c180.toNat : Int) == (103 : Int))
                then some (decide (y1.2.2 ≥ (0 : Int)))
                else some false))))) fun b181 =>
            (bif b181
            then (chk (room (1 + 1) 8)
              (some ([], ([y1.2.1] ++ [y1.2.2]))))
            else some ([], [y1.2.1])))))))
        else (Option.bind ((Option.bind (idx y0 (2 : Int)) fun c182 =>
            (bif ((c182.toNat : Int) == (114 : Int))
            then some (decide (y1.2.2 ≥ (0 : Int)))
            else (Option.bind (idx y0 (2 : Int)) fun c183 =>
              (bif ((c183.toNat : Int) == (101 : Int))
              then some (decide (y1.2.2 ≥ (0 : Int)))
              else some false))))) fun b184 =>
          (bif b184
          then (chk (room 1 8)
            ((Option.bind ((Option.bind (idx y0 (2 : Int)) fun c185 =>
              (bif ((c185.toNat : Int) == (119 : Int))
              then some (decide (y1.2.2 ≥ (0 : Int)))
              else (Option.bind (idx y0 (2 : Int)) fun c186 =>
                (bif ((c186.toNat : Int) == (103 : Int))
                then some (decide (y1.2.2 ≥ (0 : Int)))
                else some false))))) fun b187 =>
            (bif b187
            then (chk (room 1 8)
              (some ([y1.2.2], [y1.2.2])))
            else some ([y1.2.2], [])))))
          else (Option.bind ((Option.bind (idx y0 (2 : Int)) fun c188 =>
              (bif ((c188.toNat : Int) == (119 : Int))
              then some (decide (y1.2.2 ≥ (0 : Int)))
              else (Option.bind (idx y0 (2 : Int)) fun c189 =>
                (bif ((c189.toNat : Int) == (103 : Int))
                then some (decide (y1.2.2 ≥ (0 : Int)))
                else some false))))) fun b190 =>
            (bif b190
            then (chk (room 1 8)
              (some ([], [y1.2.2])))
            else some ([], []))))))))))))))) := by kernel_rfl
def c52 (N : Nat) : Sym.Callee := ⟨f52.args, f52.ta, f52.res, f52.tr, 0, F52 N⟩
theorem ok52 (N : Nat) : CalOK tab 52 (c52 N) := fn_ok (f52.ok0 N) fuelW 52 f52.args f52.ta f52.res f52.tr 0

/- wreckage/wreckageref07.Used -/
namespace f42
def cuts : Nat → Nat → Option Outs := fun _ _ => none
def ccut : Nat → Nat → Option Outs := fun _ _ => none
def bcut : Nat → Nat → Option (Nat × Ty) := fun _ _ => none
def unr : Nat → Nat → Bool := fun _ _ => false
def ety : Nat → Nat → Option Ty := fun _ _ => none
def args : List PSh := [.agg [.int .u8, .int .i64, .int .i64, .int .i64]]
def ta : List Ty := [(.int .u8), (.int .i64), (.int .i64), (.int .i64)]
def res : List (Bool × List CSh) := [(false, [.int .u64])]
def tr : List Ty := [(.int .u64)]
def E0 (N : Nat) : SEnv := (SEnv.base tab cuts ccut bcut unr ety).addCal 52 (c52 N)
theorem ok0 (N : Nat) : EnvOK tab (E0 N) := (base_ok tab cuts ccut bcut unr ety).addCal (ok52 N)
def T0_5 : Tmpl := ⟨[(3, .c (.sl (.int .i64) .d)), (4, .c (.sl (.int .i64) .d)), (5, .c (.int .u64)), (6, .c (.int .i64))], [], [], 1, [], 0, [(.sl (.int .i64)), (.sl (.int .i64)), (.int .u64), (.int .i64)]⟩
def O0_5 : Outs := [(.exit 0, ⟨[(4, .c (.sl (.int .i64) .d)), (5, .c (.int .u64))], [], [], 1, [], 0, [(.sl (.int .i64)), (.int .u64)]⟩)]
def L0_5 (N : Nat) (k : Nat) (x : (List (Int)) × (List (Int)) × (Int) × Int) : Option (((List (Int)) × Int)) := loopF (loopStep (E0 N) fuelW 0 5 (bodyAt t42 5) T0_5 O0_5) k x
theorem L0_5_succ (N : Nat) (k : Nat) (v1 : List (Int)) (v2 : List (Int)) (v3 : Int) (v4 : Int) : L0_5 N (k + 1) (v1, v2, v3, v4) =
  (bif (decide (v4 < (v1.length : Int)))
  then (Option.bind (idx v1 v4) fun x5 =>
    (chk (!decide (x5 < 0))
    (L0_5 N k (v1, v2, (ior .u64 v3 (wu64 ((1 : Int) * (2 ^ min (Int.toNat x5) 64)))), (wi64 (v4 + (1 : Int)))))))
  else some (v2, v3)) := by kernel_rfl
def E1 (N : Nat) : SEnv := (E0 N).addLoop N 0 5 T0_5 O0_5
theorem ok1 (N : Nat) : EnvOK tab (E1 N) := (ok0 N).addLoop N 0 5 T0_5 O0_5
def T0_13 : Tmpl := ⟨[(4, .c (.sl (.int .i64) .d)), (5, .c (.int .u64)), (7, .c (.int .i64))], [], [], 1, [], 0, [(.sl (.int .i64)), (.int .u64), (.int .i64)]⟩
def O0_13 : Outs := [(.exit 2, ⟨[(5, .c (.int .u64))], [], [], 1, [], 0, [(.int .u64)]⟩)]
def L0_13 (N : Nat) (k : Nat) (x : (List (Int)) × (Int) × Int) : Option ((Int)) := loopF (loopStep (E1 N) fuelW 0 13 (bodyAt t42 13) T0_13 O0_13) k x
theorem L0_13_succ (N : Nat) (k : Nat) (v7 : List (Int)) (v8 : Int) (v9 : Int) : L0_13 N (k + 1) (v7, v8, v9) =
  (bif (decide (v9 < (v7.length : Int)))
  then (Option.bind (idx v7 v9) fun x10 =>
    (chk (!decide (x10 < 0))
    (L0_13 N k (v7, (ior .u64 v8 (wu64 ((1 : Int) * (2 ^ min (Int.toNat x10) 64)))), (wi64 (v9 + (1 : Int)))))))
  else some v8) := by kernel_rfl
def E2 (N : Nat) : SEnv := (E1 N).addLoop N 0 13 T0_13 O0_13
theorem ok2 (N : Nat) : EnvOK tab (E2 N) := (ok1 N).addLoop N 0 13 T0_13 O0_13
end f42
def F42 (N : Nat) (x : (Int) × (Int) × (Int) × Int) : Option (Int) := fnRun (f42.E2 N) fuelW 42 f42.args f42.ta f42.res f42.tr 0 x
open f42 in
theorem F42_eq (N : Nat) (p0 : Int) (p1 : Int) (p2 : Int) (p3 : Int) : F42 N (p0, p1, p2, p3) =
  (Option.bind (F52 N (p0, p1, p2, p3)) fun y0 =>
  (Option.bind (L0_5 N N (y0.1, y0.2, (0 : Int), (0 : Int))) fun y6 =>
  (Option.bind (L0_13 N N (y6.1, y6.2, (0 : Int))) fun y11 =>
  some y11))) := by kernel_rfl
def c42 (N : Nat) : Sym.Callee := ⟨f42.args, f42.ta, f42.res, f42.tr, 0, F42 N⟩
theorem ok42 (N : Nat) : CalOK tab 42 (c42 N) := fn_ok (f42.ok2 N) fuelW 42 f42.args f42.ta f42.res f42.tr 0

/- wreckage/wreckageref07.Least -/
namespace f25
def cuts : Nat → Nat → Option Outs := fun _ _ => none
def ccut : Nat → Nat → Option Outs := fun _ _ => none
def bcut : Nat → Nat → Option (Nat × Ty) := fun _ _ => none
def unr : Nat → Nat → Bool := fun _ _ => false
def ety : Nat → Nat → Option Ty := fun _ _ => none
def args : List PSh := [.c (.int .i64)]
def ta : List Ty := [(.int .i64)]
def res : List (Bool × List CSh) := [(false, [.int .u64])]
def tr : List Ty := [(.int .u64)]
def E0 (N : Nat) : SEnv := SEnv.base tab cuts ccut bcut unr ety
theorem ok0 (N : Nat) : EnvOK tab (E0 N) := base_ok tab cuts ccut bcut unr ety
end f25
def F25 (N : Nat) (x : Int) : Option (Int) := fnRun (f25.E0 N) fuelW 25 f25.args f25.ta f25.res f25.tr 0 x
open f25 in
theorem F25_eq (N : Nat) (p0 : Int) : F25 N p0 =
  (chk (!decide (p0 < 0))
  (some (wu64 ((wu64 ((1 : Int) * (2 ^ min (Int.toNat p0) 64))) - (1 : Int))))) := by kernel_rfl
def c25 (N : Nat) : Sym.Callee := ⟨f25.args, f25.ta, f25.res, f25.tr, 0, F25 N⟩
theorem ok25 (N : Nat) : CalOK tab 25 (c25 N) := fn_ok (f25.ok0 N) fuelW 25 f25.args f25.ta f25.res f25.tr 0

/- wreckage/wreckageref07.Fits -/
namespace f21
def cuts : Nat → Nat → Option Outs := fun _ _ => none
def ccut : Nat → Nat → Option Outs := fun _ _ => none
def bcut : Nat → Nat → Option (Nat × Ty) := fun c i => match c, i with
  | 0, 1 => some (22, .bool)
  | _, _ => none
def unr : Nat → Nat → Bool := fun _ _ => false
def ety : Nat → Nat → Option Ty := fun _ _ => none
def args : List PSh := [.c (.sl TInstr .bor), .c (.int .i64), .c (.int .i64)]
def ta : List Ty := [(.sl TInstr), (.int .i64), (.int .i64)]
def res : List (Bool × List CSh) := [(false, [.int .i64])]
def tr : List Ty := [(.int .i64)]
def E0 (N : Nat) : SEnv := ((SEnv.base tab cuts ccut bcut unr ety).addCal 42 (c42 N)).addCal 25 (c25 N)
theorem ok0 (N : Nat) : EnvOK tab (E0 N) := ((base_ok tab cuts ccut bcut unr ety).addCal (ok42 N)).addCal (ok25 N)
def T0_6 : Tmpl := ⟨[(0, .c (.sl TInstr .bor)), (2, .c (.int .i64)), (7, .c (.int .i64))], [], [], 1, [], 0, [(.sl TInstr), (.int .i64), (.int .i64)]⟩
def O0_6 : Outs := [(.ret, ⟨[(6, .c (.int .i64))], [], [], 1, [], 0, [(.int .i64)]⟩), (.exit 0, ⟨[], [], [], 1, [], 0, []⟩)]
def L0_6 (N : Nat) (k : Nat) (x : (List (Instr)) × (Int) × Int) : Option ((Int) ⊕ (Unit)) := loopF (loopStep (E0 N) fuelW 0 6 (bodyAt t21 6) T0_6 O0_6) k x
theorem L0_6_succ (N : Nat) (k : Nat) (v1 : List (Instr)) (v2 : Int) (v3 : Int) : L0_6 N (k + 1) (v1, v2, v3) =
  (bif (decide (v3 < (v1.length : Int)))
  then (Option.bind (idx v1 v3) fun x4 =>
    (Option.bind (F42 N (x4.1, x4.2.1, x4.2.2.1, x4.2.2.2)) fun y5 =>
    (Option.bind (F25 N v2) fun y6 =>
    (bif ((iandnot .u64 y5 y6) != (0 : Int))
    then some (Sum.inl (16 : Int))
    else L0_6 N k (v1, v2, (wi64 (v3 + (1 : Int))))))))
  else some (Sum.inr ())) := by kernel_rfl
def E1 (N : Nat) : SEnv := (E0 N).addLoop N 0 6 T0_6 O0_6
theorem ok1 (N : Nat) : EnvOK tab (E1 N) := (ok0 N).addLoop N 0 6 T0_6 O0_6
end f21
def F21 (N : Nat) (x : (List (Instr)) × (Int) × Int) : Option (Int) := fnRun (f21.E1 N) fuelW 21 f21.args f21.ta f21.res f21.tr 0 x
open f21 in
theorem F21_eq (N : Nat) (p0 : List (Instr)) (p1 : Int) (p2 : Int) : F21 N (p0, p1, p2) =
  (Option.bind ((bif (decide (p2 < (0 : Int)))
    then some true
    else (bif (decide (p2 > (16 : Int)))
      then some true
      else (bif (decide (p1 < (0 : Int)))
        then some true
        else some (decide (p1 > p2)))))) fun b0 =>
  (bif b0
  then some (2 : Int)
  else (Option.bind (L0_6 N N (p0, p2, (0 : Int))) fun y7 =>
    (match y7 with
    | .inl a8 => some a8
    | .inr b9 => some (0 : Int))))) := by kernel_rfl
def c21 (N : Nat) : Sym.Callee := ⟨f21.args, f21.ta, f21.res, f21.tr, 0, F21 N⟩
theorem ok21 (N : Nat) : CalOK tab 21 (c21 N) := fn_ok (f21.ok1 N) fuelW 21 f21.args f21.ta f21.res f21.tr 0

/- wreckage/wreckageref07.Added -/
namespace f32
def cuts : Nat → Nat → Option Outs := fun _ _ => none
def ccut : Nat → Nat → Option Outs := fun _ _ => none
def bcut : Nat → Nat → Option (Nat × Ty) := fun c i => match c, i with
  | 0, 10 => some (28, .bool)
  | _, _ => none
def unr : Nat → Nat → Bool := fun _ _ => false
def ety : Nat → Nat → Option Ty := fun _ _ => none
def args : List PSh := [.c (.sl TInstr .bor), .c (.sl (.int .i64) .bor)]
def ta : List Ty := [(.sl TInstr), (.sl (.int .i64))]
def res : List (Bool × List CSh) := [(false, [.bool])]
def tr : List Ty := [.bool]
def E0 (N : Nat) : SEnv := SEnv.base tab cuts ccut bcut unr ety
theorem ok0 (N : Nat) : EnvOK tab (E0 N) := base_ok tab cuts ccut bcut unr ety
def T0_6 : Tmpl := ⟨[(1, .c (.sl (.int .i64) .bor)), (5, .c (.int .i64))], [], [], 1, [], 0, [(.sl (.int .i64)), (.int .i64)]⟩
def O0_6 : Outs := [(.ret, ⟨[(4, .c (.bool))], [], [], 1, [], 0, [.bool]⟩), (.exit 0, ⟨[], [], [], 1, [], 0, []⟩)]
def L0_6 (N : Nat) (k : Nat) (x : (List (Int)) × Int) : Option ((Bool) ⊕ (Unit)) := loopF (loopStep (E0 N) fuelW 0 6 (bodyAt t32 6) T0_6 O0_6) k x
theorem L0_6_succ (N : Nat) (k : Nat) (v0 : List (Int)) (v1 : Int) : L0_6 N (k + 1) (v0, v1) =
  (bif (decide (v1 < (v0.length : Int)))
  then (Option.bind ((Option.bind (idx v0 v1) fun x2 =>
      (bif (decide (x2 < (-4096 : Int)))
      then some true
      else (Option.bind (idx v0 v1) fun x3 =>
        some (decide (x3 > (4096 : Int))))))) fun b4 =>
    (bif b4
    then some (Sum.inl false)
    else L0_6 N k (v0, (wi64 (v1 + (1 : Int))))))
  else some (Sum.inr ())) := by kernel_rfl
def E1 (N : Nat) : SEnv := (E0 N).addLoop N 0 6 T0_6 O0_6
theorem ok1 (N : Nat) : EnvOK tab (E1 N) := (ok0 N).addLoop N 0 6 T0_6 O0_6
end f32
def F32 (N : Nat) (x : (List (Instr)) × List (Int)) : Option (Bool) := fnRun (f32.E1 N) fuelW 32 f32.args f32.ta f32.res f32.tr 0 x
open f32 in
theorem F32_eq (N : Nat) (p0 : List (Instr)) (p1 : List (Int)) : F32 N (p0, p1) =
  (bif ((p1.length : Int) != (p0.length : Int))
  then some false
  else (Option.bind (L0_6 N N (p1, (0 : Int))) fun y5 =>
    (match y5 with
    | .inl a6 => some a6
    | .inr b7 => some true))) := by kernel_rfl
def c32 (N : Nat) : Sym.Callee := ⟨f32.args, f32.ta, f32.res, f32.tr, 0, F32 N⟩
theorem ok32 (N : Nat) : CalOK tab 32 (c32 N) := fn_ok (f32.ok1 N) fuelW 32 f32.args f32.ta f32.res f32.tr 0

/- wreckage/wreckagelaw07.end -/
namespace f34
def cuts : Nat → Nat → Option Outs := fun _ _ => none
def ccut : Nat → Nat → Option Outs := fun _ _ => none
def bcut : Nat → Nat → Option (Nat × Ty) := fun _ _ => none
def unr : Nat → Nat → Bool := fun _ _ => false
def ety : Nat → Nat → Option Ty := fun _ _ => none
def args : List PSh := []
def ta : List Ty := []
def res : List (Bool × List CSh) := [(true, [.int .u8, .int .i64, .int .i64, .int .i64])]
def tr : List Ty := [(.int .u8), (.int .i64), (.int .i64), (.int .i64)]
def E0 (N : Nat) : SEnv := SEnv.base tab cuts ccut bcut unr ety
theorem ok0 (N : Nat) : EnvOK tab (E0 N) := base_ok tab cuts ccut bcut unr ety
end f34
def F34 (N : Nat) (x : Unit) : Option ((Int) × (Int) × (Int) × Int) := fnRun (f34.E0 N) fuelW 34 f34.args f34.ta f34.res f34.tr 0 x
open f34 in
theorem F34_eq (N : Nat) : F34 N () =
  some ((34 : Int), (-1 : Int), (0 : Int), (0 : Int)) := by kernel_rfl
def c34 (N : Nat) : Sym.Callee := ⟨f34.args, f34.ta, f34.res, f34.tr, 0, F34 N⟩
theorem ok34 (N : Nat) : CalOK tab 34 (c34 N) := fn_ok (f34.ok0 N) fuelW 34 f34.args f34.ta f34.res f34.tr 0

/- wreckage/wreckagelaw07.given -/
namespace f43
def cuts : Nat → Nat → Option Outs := fun _ _ => none
def ccut : Nat → Nat → Option Outs := fun _ _ => none
def bcut : Nat → Nat → Option (Nat × Ty) := fun _ _ => none
def unr : Nat → Nat → Bool := fun _ _ => false
def ety : Nat → Nat → Option Ty := fun c d => match c, d with
  | 0, 9 => some TInstr
  | _, _ => none
def args : List PSh := [.agg [.int .u8, .int .i64, .int .i64, .int .i64]]
def ta : List Ty := [(.int .u8), (.int .i64), (.int .i64), (.int .i64)]
def res : List (Bool × List CSh) := [(false, [.sl TInstr .d])]
def tr : List Ty := [(.sl TInstr)]
def E0 (N : Nat) : SEnv := (SEnv.base tab cuts ccut bcut unr ety).addCal 34 (c34 N)
theorem ok0 (N : Nat) : EnvOK tab (E0 N) := (base_ok tab cuts ccut bcut unr ety).addCal (ok34 N)
end f43
def F43 (N : Nat) (x : (Int) × (Int) × (Int) × Int) : Option (List (Instr)) := fnRun (f43.E0 N) fuelW 43 f43.args f43.ta f43.res f43.tr 0 x
open f43 in
theorem F43_eq (N : Nat) (p0 : Int) (p1 : Int) (p2 : Int) (p3 : Int) : F43 N (p0, p1, p2, p3) =
  (Option.bind (F34 N ()) fun y0 =>
  some [((23 : Int), (0 : Int), (3 : Int), (0 : Int)), ((1 : Int), (1 : Int), (7 : Int), (0 : Int)), ((22 : Int), (4 : Int), (0 : Int), (0 : Int)), (p0, p1, p2, p3), ((5 : Int), (2 : Int), (1 : Int), (0 : Int)), y0]) := by kernel_rfl
def c43 (N : Nat) : Sym.Callee := ⟨f43.args, f43.ta, f43.res, f43.tr, 0, F43 N⟩
theorem ok43 (N : Nat) : CalOK tab 43 (c43 N) := fn_ok (f43.ok0 N) fuelW 43 f43.args f43.ta f43.res f43.tr 0

/- wreckage/ops.write -/
namespace f64
def cuts : Nat → Nat → Option Outs := fun _ _ => none
def ccut : Nat → Nat → Option Outs := fun _ _ => none
def bcut : Nat → Nat → Option (Nat × Ty) := fun _ _ => none
def unr : Nat → Nat → Bool := fun _ _ => false
def ety : Nat → Nat → Option Ty := fun _ _ => none
def args : List PSh := []
def ta : List Ty := []
def res : List (Bool × List CSh) := [(true, [.int .i64, .int .i64, .bool, .bool])]
def tr : List Ty := [(.int .i64), (.int .i64), .bool, .bool]
def E0 (N : Nat) : SEnv := SEnv.base tab cuts ccut bcut unr ety
theorem ok0 (N : Nat) : EnvOK tab (E0 N) := base_ok tab cuts ccut bcut unr ety
end f64
def F64 (N : Nat) (x : Unit) : Option ((Int) × (Int) × (Bool) × Bool) := fnRun (f64.E0 N) fuelW 64 f64.args f64.ta f64.res f64.tr 0 x
open f64 in
theorem F64_eq (N : Nat) : F64 N () =
  some ((0 : Int), (15 : Int), false, true) := by kernel_rfl
def c64 (N : Nat) : Sym.Callee := ⟨f64.args, f64.ta, f64.res, f64.tr, 0, F64 N⟩
theorem ok64 (N : Nat) : CalOK tab 64 (c64 N) := fn_ok (f64.ok0 N) fuelW 64 f64.args f64.ta f64.res f64.tr 0

/- wreckage/ops.whole -/
namespace f65
def cuts : Nat → Nat → Option Outs := fun _ _ => none
def ccut : Nat → Nat → Option Outs := fun _ _ => none
def bcut : Nat → Nat → Option (Nat × Ty) := fun _ _ => none
def unr : Nat → Nat → Bool := fun _ _ => false
def ety : Nat → Nat → Option Ty := fun _ _ => none
def args : List PSh := []
def ta : List Ty := []
def res : List (Bool × List CSh) := [(true, [.int .i64, .int .i64, .bool, .bool])]
def tr : List Ty := [(.int .i64), (.int .i64), .bool, .bool]
def E0 (N : Nat) : SEnv := SEnv.base tab cuts ccut bcut unr ety
theorem ok0 (N : Nat) : EnvOK tab (E0 N) := base_ok tab cuts ccut bcut unr ety
end f65
def F65 (N : Nat) (x : Unit) : Option ((Int) × (Int) × (Bool) × Bool) := fnRun (f65.E0 N) fuelW 65 f65.args f65.ta f65.res f65.tr 0 x
open f65 in
theorem F65_eq (N : Nat) : F65 N () =
  some ((-9223372036854775808 : Int), (9223372036854775807 : Int), false, false) := by kernel_rfl
def c65 (N : Nat) : Sym.Callee := ⟨f65.args, f65.ta, f65.res, f65.tr, 0, F65 N⟩
theorem ok65 (N : Nat) : CalOK tab 65 (c65 N) := fn_ok (f65.ok0 N) fuelW 65 f65.args f65.ta f65.res f65.tr 0

/- wreckage/ops.below -/
namespace f66
def cuts : Nat → Nat → Option Outs := fun _ _ => none
def ccut : Nat → Nat → Option Outs := fun _ _ => none
def bcut : Nat → Nat → Option (Nat × Ty) := fun _ _ => none
def unr : Nat → Nat → Bool := fun _ _ => false
def ety : Nat → Nat → Option Ty := fun _ _ => none
def args : List PSh := [.c (.int .i64)]
def ta : List Ty := [(.int .i64)]
def res : List (Bool × List CSh) := [(true, [.int .i64, .int .i64, .bool, .bool])]
def tr : List Ty := [(.int .i64), (.int .i64), .bool, .bool]
def E0 (N : Nat) : SEnv := SEnv.base tab cuts ccut bcut unr ety
theorem ok0 (N : Nat) : EnvOK tab (E0 N) := base_ok tab cuts ccut bcut unr ety
end f66
def F66 (N : Nat) (x : Int) : Option ((Int) × (Int) × (Bool) × Bool) := fnRun (f66.E0 N) fuelW 66 f66.args f66.ta f66.res f66.tr 0 x
open f66 in
theorem F66_eq (N : Nat) (p0 : Int) : F66 N p0 =
  some ((0 : Int), (wi64 (p0 - (1 : Int))), false, false) := by kernel_rfl
def c66 (N : Nat) : Sym.Callee := ⟨f66.args, f66.ta, f66.res, f66.tr, 0, F66 N⟩
theorem ok66 (N : Nat) : CalOK tab 66 (c66 N) := fn_ok (f66.ok0 N) fuelW 66 f66.args f66.ta f66.res f66.tr 0

/- wreckage/ops.read -/
namespace f67
def cuts : Nat → Nat → Option Outs := fun _ _ => none
def ccut : Nat → Nat → Option Outs := fun _ _ => none
def bcut : Nat → Nat → Option (Nat × Ty) := fun _ _ => none
def unr : Nat → Nat → Bool := fun _ _ => false
def ety : Nat → Nat → Option Ty := fun _ _ => none
def args : List PSh := []
def ta : List Ty := []
def res : List (Bool × List CSh) := [(true, [.int .i64, .int .i64, .bool, .bool])]
def tr : List Ty := [(.int .i64), (.int .i64), .bool, .bool]
def E0 (N : Nat) : SEnv := SEnv.base tab cuts ccut bcut unr ety
theorem ok0 (N : Nat) : EnvOK tab (E0 N) := base_ok tab cuts ccut bcut unr ety
end f67
def F67 (N : Nat) (x : Unit) : Option ((Int) × (Int) × (Bool) × Bool) := fnRun (f67.E0 N) fuelW 67 f67.args f67.ta f67.res f67.tr 0 x
open f67 in
theorem F67_eq (N : Nat) : F67 N () =
  some ((0 : Int), (15 : Int), true, false) := by kernel_rfl
def c67 (N : Nat) : Sym.Callee := ⟨f67.args, f67.ta, f67.res, f67.tr, 0, F67 N⟩
theorem ok67 (N : Nat) : CalOK tab 67 (c67 N) := fn_ok (f67.ok0 N) fuelW 67 f67.args f67.ta f67.res f67.tr 0

/- wreckage/ops.shape -/
namespace f55
def cuts : Nat → Nat → Option Outs := fun _ _ => none
def ccut : Nat → Nat → Option Outs := fun _ _ => none
def bcut : Nat → Nat → Option (Nat × Ty) := fun c i => match c, i with
  | 0, 24 => some (7, .bool)
  | 0, 34 => some (16, .bool)
  | 0, 48 => some (19, .bool)
  | 0, 46 => some (19, .bool)
  | 0, 44 => some (19, .bool)
  | 0, 42 => some (19, .bool)
  | 0, 40 => some (19, .bool)
  | 0, 38 => some (19, .bool)
  | 0, 60 => some (27, .bool)
  | 0, 58 => some (27, .bool)
  | 0, 56 => some (27, .bool)
  | 0, 54 => some (27, .bool)
  | 0, 52 => some (27, .bool)
  | 0, 78 => some (46, .bool)
  | 0, 76 => some (46, .bool)
  | 0, 84 => some (52, .bool)
  | _, _ => none
def unr : Nat → Nat → Bool := fun _ _ => false
def ety : Nat → Nat → Option Ty := fun c d => match c, d with
  | 0, 62 => some Tuse
  | 0, 67 => some Tuse
  | 0, 72 => some Tuse
  | 0, 76 => some Tuse
  | 0, 91 => some Tuse
  | 0, 97 => some Tuse
  | 0, 103 => some Tuse
  | 0, 108 => some Tuse
  | 0, 112 => some Tuse
  | 0, 117 => some Tuse
  | 0, 121 => some Tuse
  | 0, 126 => some Tuse
  | 0, 132 => some Tuse
  | 0, 137 => some Tuse
  | 0, 141 => some Tuse
  | _, _ => none
def args : List PSh := [.c (.int .u8)]
def ta : List Ty := [(.int .u8)]
def res : List (Bool × List CSh) := [(true, [.int .i64, .int .i64, .bool, .bool, .int .i64, .int .i64, .bool, .bool, .int .i64, .int .i64, .bool, .bool]), (false, [.int .i64])]
def tr : List Ty := [(.int .i64), (.int .i64), .bool, .bool, (.int .i64), (.int .i64), .bool, .bool, (.int .i64), (.int .i64), .bool, .bool, (.int .i64)]
def E0 (N : Nat) : SEnv := ((((SEnv.base tab cuts ccut bcut unr ety).addCal 64 (c64 N)).addCal 65 (c65 N)).addCal 66 (c66 N)).addCal 67 (c67 N)
theorem ok0 (N : Nat) : EnvOK tab (E0 N) := ((((base_ok tab cuts ccut bcut unr ety).addCal (ok64 N)).addCal (ok65 N)).addCal (ok66 N)).addCal (ok67 N)
end f55
def F55 (N : Nat) (x : Int) : Option ((Int) × (Int) × (Bool) × (Bool) × (Int) × (Int) × (Bool) × (Bool) × (Int) × (Int) × (Bool) × (Bool) × Int) := fnRun (f55.E0 N) fuelW 55 f55.args f55.ta f55.res f55.tr 0 x
open f55 in
theorem F55_eq (N : Nat) (p0 : Int) : F55 N p0 =
  (Option.bind ((bif (p0 == (30 : Int))
    then some true
    else some (p0 == (31 : Int)))) fun b0 =>
  (bif b0
  then some ((0 : Int), (0 : Int), false, false, (0 : Int), (0 : Int), false, false, (0 : Int), (0 : Int), false, false, (0 : Int))
  else (bif (p0 == (1 : Int))
    then (Option.bind (F64 N ()) fun y1 =>
      (Option.bind (F65 N ()) fun y2 =>
      some (y1.1, y1.2.1, y1.2.2.1, y1.2.2.2, y2.1, y2.2.1, y2.2.2.1, y2.2.2.2, (0 : Int), (0 : Int), false, false, (2 : Int))))
    else (bif (p0 == (2 : Int))
      then (Option.bind (F64 N ()) fun y3 =>
        (Option.bind (F66 N (32 : Int)) fun y4 =>
        some (y3.1, y3.2.1, y3.2.2.1, y3.2.2.2, y4.1, y4.2.1, y4.2.2.1, y4.2.2.2, (0 : Int), (0 : Int), false, false, (2 : Int))))
      else (bif (p0 == (3 : Int))
        then (Option.bind (F64 N ()) fun y5 =>
          (Option.bind (F66 N (2 : Int)) fun y6 =>
          some (y5.1, y5.2.1, y5.2.2.1, y5.2.2.2, y6.1, y6.2.1, y6.2.2.1, y6.2.2.2, (0 : Int), (0 : Int), false, false, (2 : Int))))
        else (Option.bind ((bif (p0 == (4 : Int))
            then some true
            else some (p0 == (15 : Int)))) fun b7 =>
          (bif b7
          then (Option.bind (F64 N ()) fun y8 =>
            some (y8.1, y8.2.1, y8.2.2.1, y8.2.2.2, (0 : Int), (0 : Int), false, false, (0 : Int), (0 : Int), false, false, (1 : Int)))
          else (Option.bind ((bif (p0 == (6 : Int))
              then some true
              else (Option.bind ((bif (p0 == (7 : Int))
                  then some true
                  else (Option.bind ((bif (p0 == (8 : Int))
                      then some true
                      else (Option.bind ((bif (p0 == (9 : Int))
                          then some true
                          else (Option.bind ((bif (p0 == (10 : Int))
                              then some true
                              else (Option.bind ((bif (p0 == (11 : Int))
                                  then some true
                                  else some (p0 == (19 : Int)))) fun b9 =>
                                some b9))) fun b10 =>
                            some b10))) fun b11 =>
                        some b11))) fun b12 =>
                    some b12))) fun b13 =>
                some b13))) fun b14 =>
            (bif b14
            then (Option.bind (F67 N ()) fun y15 =>
              (Option.bind (F64 N ()) fun y16 =>
              (Option.bind (F67 N ()) fun y17 =>
              (bif y15.2.2.1
              then some (y16.1, y16.2.1, y16.2.2.1, y16.2.2.2, y17.1, y17.2.1, y17.2.2.1, y17.2.2.2, y15.1, y15.2.1, y15.2.2.1, y15.2.2.2, (3 : Int))
              else some (y16.1, y16.2.1, y16.2.2.1, y16.2.2.2, y17.1, y17.2.1, y17.2.2.1, y17.2.2.2, y15.1, y15.2.1, y15.2.2.1, y15.2.2.2, (2 : Int))))))
            else (Option.bind ((bif (p0 == (5 : Int))
                then some true
                else (Option.bind ((bif (p0 == (12 : Int))
                    then some true
                    else (Option.bind ((bif (p0 == (16 : Int))
                        then some true
                        else (Option.bind ((bif (p0 == (18 : Int))
                            then some true
                            else (Option.bind ((bif (p0 == (21 : Int))
                                then some true
                                else some (p0 == (33 : Int)))) fun b18 =>
                              some b18))) fun b19 =>
                          some b19))) fun b20 =>
                      some b20))) fun b21 =>
                  some b21))) fun b22 =>
              (bif b22
              then (Option.bind (F64 N ()) fun y23 =>
                (Option.bind (F67 N ()) fun y24 =>
                some (y23.1, y23.2.1, y23.2.2.1, y23.2.2.2, y24.1, y24.2.1, y24.2.2.1, y24.2.2.2, (0 : Int), (0 : Int), false, false, (2 : Int))))
              else (bif (p0 == (13 : Int))
                then (Option.bind (F64 N ()) fun y25 =>
                  (Option.bind (F67 N ()) fun y26 =>
                  (Option.bind (F66 N (8 : Int)) fun y27 =>
                  some (y25.1, y25.2.1, y25.2.2.1, y25.2.2.2, y26.1, y26.2.1, y26.2.2.1, y26.2.2.2, y27.1, y27.2.1, y27.2.2.1, y27.2.2.2, (3 : Int)))))
                else (bif (p0 == (14 : Int))
                  then (Option.bind (F67 N ()) fun y28 =>
                    (Option.bind (F66 N (8 : Int)) fun y29 =>
                    (Option.bind (F67 N ()) fun y30 =>
                    some (y28.1, y28.2.1, y28.2.2.1, y28.2.2.2, y29.1, y29.2.1, y29.2.2.1, y29.2.2.2, y30.1, y30.2.1, y30.2.2.1, y30.2.2.2, (3 : Int)))))
                  else (bif (p0 == (20 : Int))
                    then (Option.bind (F67 N ()) fun y31 =>
                      (Option.bind (F67 N ()) fun y32 =>
                      (Option.bind (F67 N ()) fun y33 =>
                      some (y31.1, y31.2.1, y31.2.2.1, y31.2.2.2, y32.1, y32.2.1, y32.2.2.1, y32.2.2.2, y33.1, y33.2.1, y33.2.2.1, y33.2.2.2, (3 : Int)))))
                    else (bif (p0 == (17 : Int))
                      then (Option.bind (F67 N ()) fun y34 =>
                        (Option.bind (F67 N ()) fun y35 =>
                        some (y34.1, y34.2.1, y34.2.2.1, y34.2.2.2, y35.1, y35.2.1, y35.2.2.1, y35.2.2.2, (0 : Int), (0 : Int), false, false, (2 : Int))))
                      else (bif (p0 == (22 : Int))
                        then (Option.bind (F66 N (200 : Int)) fun y36 =>
                          some (y36.1, y36.2.1, y36.2.2.1, y36.2.2.2, (0 : Int), (0 : Int), false, false, (0 : Int), (0 : Int), false, false, (1 : Int)))
                        else (bif (p0 == (23 : Int))
                          then (Option.bind (F67 N ()) fun y37 =>
                            (Option.bind (F66 N (200 : Int)) fun y38 =>
                            some (y37.1, y37.2.1, y37.2.2.1, y37.2.2.2, y38.1, y38.2.1, y38.2.2.1, y38.2.2.2, (0 : Int), (0 : Int), false, false, (2 : Int))))
                          else (Option.bind ((bif (p0 == (24 : Int))
                              then some true
                              else (Option.bind ((bif (p0 == (28 : Int))
                                  then some true
                                  else some (p0 == (32 : Int)))) fun b39 =>
                                some b39))) fun b40 =>
                            (bif b40
                            then (Option.bind (F67 N ()) fun y41 =>
                              some (y41.1, y41.2.1, y41.2.2.1, y41.2.2.2, (0 : Int), (0 : Int), false, false, (0 : Int), (0 : Int), false, false, (1 : Int)))
                            else (bif (p0 == (25 : Int))
                              then (Option.bind (F64 N ()) fun y42 =>
                                (Option.bind (F66 N (32 : Int)) fun y43 =>
                                some ((-1 : Int), y42.2.1, y42.2.2.1, y42.2.2.2, y43.1, y43.2.1, y43.2.2.1, y43.2.2.2, (0 : Int), (0 : Int), false, false, (2 : Int))))
                              else (Option.bind ((bif (p0 == (26 : Int))
                                  then some true
                                  else some (p0 == (27 : Int)))) fun b44 =>
                                (bif b44
                                then (Option.bind (F66 N (32 : Int)) fun y45 =>
                                  some (y45.1, y45.2.1, y45.2.2.1, y45.2.2.2, (0 : Int), (0 : Int), false, false, (0 : Int), (0 : Int), false, false, (1 : Int)))
                                else (bif (p0 == (29 : Int))
                                  then (Option.bind (F64 N ()) fun y46 =>
                                    (Option.bind (F64 N ()) fun y47 =>
                                    some (y46.1, y46.2.1, y46.2.2.1, y46.2.2.2, y47.1, y47.2.1, y47.2.2.1, y47.2.2.2, (0 : Int), (0 : Int), false, false, (2 : Int))))
                                  else (bif (p0 == (34 : Int))
                                    then (Option.bind (F67 N ()) fun y48 =>
                                      some ((-1 : Int), y48.2.1, y48.2.2.1, y48.2.2.2, (0 : Int), (0 : Int), false, false, (0 : Int), (0 : Int), false, false, (1 : Int)))
                                    else some ((0 : Int), (0 : Int), false, false, (0 : Int), (0 : Int), false, false, (0 : Int), (0 : Int), false, false, (-1 : Int)))))))))))))))))))))))))) := by kernel_rfl
def c55 (N : Nat) : Sym.Callee := ⟨f55.args, f55.ta, f55.res, f55.tr, 0, F55 N⟩
theorem ok55 (N : Nat) : CalOK tab 55 (c55 N) := fn_ok (f55.ok0 N) fuelW 55 f55.args f55.ta f55.res f55.tr 0

/- wreckage/ops.operands -/
namespace f56
def cuts : Nat → Nat → Option Outs := fun _ _ => none
def ccut : Nat → Nat → Option Outs := fun _ _ => none
def bcut : Nat → Nat → Option (Nat × Ty) := fun _ _ => none
def unr : Nat → Nat → Bool := fun _ _ => false
def ety : Nat → Nat → Option Ty := fun _ _ => none
def args : List PSh := [.agg [.int .u8, .int .i64, .int .i64, .int .i64]]
def ta : List Ty := [(.int .u8), (.int .i64), (.int .i64), (.int .i64)]
def res : List (Bool × List CSh) := [(true, [.int .i64, .int .i64, .int .i64])]
def tr : List Ty := [(.int .i64), (.int .i64), (.int .i64)]
def E0 (N : Nat) : SEnv := SEnv.base tab cuts ccut bcut unr ety
theorem ok0 (N : Nat) : EnvOK tab (E0 N) := base_ok tab cuts ccut bcut unr ety
end f56
def F56 (N : Nat) (x : (Int) × (Int) × (Int) × Int) : Option ((Int) × (Int) × Int) := fnRun (f56.E0 N) fuelW 56 f56.args f56.ta f56.res f56.tr 0 x
open f56 in
theorem F56_eq (N : Nat) (p0 : Int) (p1 : Int) (p2 : Int) (p3 : Int) : F56 N (p0, p1, p2, p3) =
  some (p1, p2, p3) := by kernel_rfl
def c56 (N : Nat) : Sym.Callee := ⟨f56.args, f56.ta, f56.res, f56.tr, 0, F56 N⟩
theorem ok56 (N : Nat) : CalOK tab 56 (c56 N) := fn_ok (f56.ok0 N) fuelW 56 f56.args f56.ta f56.res f56.tr 0

/- wreckage/ops.Check -/
namespace f40
def cuts : Nat → Nat → Option Outs := fun _ _ => none
def ccut : Nat → Nat → Option Outs := fun _ _ => none
def bcut : Nat → Nat → Option (Nat × Ty) := fun c i => match c, i with
  | 0, 12 => some (34, .bool)
  | _, _ => none
def unr : Nat → Nat → Bool := fun c i => match c, i with
  | 0, 7 => true
  | _, _ => false
def ety : Nat → Nat → Option Ty := fun _ _ => none
def args : List PSh := [.agg [.int .u8, .int .i64, .int .i64, .int .i64]]
def ta : List Ty := [(.int .u8), (.int .i64), (.int .i64), (.int .i64)]
def res : List (Bool × List CSh) := [(false, [.int .i64])]
def tr : List Ty := [(.int .i64)]
def E0 (N : Nat) : SEnv := ((SEnv.base tab cuts ccut bcut unr ety).addCal 55 (c55 N)).addCal 56 (c56 N)
theorem ok0 (N : Nat) : EnvOK tab (E0 N) := ((base_ok tab cuts ccut bcut unr ety).addCal (ok55 N)).addCal (ok56 N)
end f40
def F40 (N : Nat) (x : (Int) × (Int) × (Int) × Int) : Option (Int) := fnRun (f40.E0 N) fuelW 40 f40.args f40.ta f40.res f40.tr 0 x
open f40 in
theorem F40_eq (N : Nat) (p0 : Int) (p1 : Int) (p2 : Int) (p3 : Int) : F40 N (p0, p1, p2, p3) =
  (Option.bind (F55 N p0) fun y0 =>
  (bif (decide (y0.2.2.2.2.2.2.2.2.2.2.2.2 < (0 : Int)))
  then some (8 : Int)
  else (Option.bind (F56 N (p0, p1, p2, p3)) fun y1 =>
    (Option.bind ((bif (decide (y1.1 < y0.1))
      then some true
      else some (decide (y1.1 > y0.2.1)))) fun b2 =>
    (bif b2
    then some (8 : Int)
    else (Option.bind ((bif (decide (y1.2.1 < y0.2.2.2.2.1))
        then some true
        else some (decide (y1.2.1 > y0.2.2.2.2.2.1)))) fun b3 =>
      (bif b3
      then some (8 : Int)
      else (Option.bind ((bif (decide (y1.2.2 < y0.2.2.2.2.2.2.2.2.1))
          then some true
          else some (decide (y1.2.2 > y0.2.2.2.2.2.2.2.2.2.1)))) fun b4 =>
        (bif b4
        then some (8 : Int)
        else some (0 : Int)))))))))) := by kernel_rfl
def c40 (N : Nat) : Sym.Callee := ⟨f40.args, f40.ta, f40.res, f40.tr, 0, F40 N⟩
theorem ok40 (N : Nat) : CalOK tab 40 (c40 N) := fn_ok (f40.ok0 N) fuelW 40 f40.args f40.ta f40.res f40.tr 0

/- wreckage/flow.Check -/
namespace f15
def cuts : Nat → Nat → Option Outs := fun _ _ => none
def ccut : Nat → Nat → Option Outs := fun _ _ => none
def bcut : Nat → Nat → Option (Nat × Ty) := fun c i => match c, i with
  | 0, 15 => some (51, .bool)
  | _, _ => none
def unr : Nat → Nat → Bool := fun _ _ => false
def ety : Nat → Nat → Option Ty := fun _ _ => none
def args : List PSh := [.c (.sl TInstr .bor)]
def ta : List Ty := [(.sl TInstr)]
def res : List (Bool × List CSh) := [(false, [.int .i64])]
def tr : List Ty := [(.int .i64)]
def E0 (N : Nat) : SEnv := (SEnv.base tab cuts ccut bcut unr ety).addCal 40 (c40 N)
theorem ok0 (N : Nat) : EnvOK tab (E0 N) := (base_ok tab cuts ccut bcut unr ety).addCal (ok40 N)
def T0_7 : Tmpl := ⟨[(3, .c (.int .i64)), (23, .c (.sl TInstr .bor)), (24, .c (.int .i64)), (25, .c (.int .i64))], [], [], 1, [], 0, [(.int .i64), (.sl TInstr), (.int .i64), (.int .i64)]⟩
def O0_7 : Outs := [(.ret, ⟨[(2, .c (.int .i64))], [], [], 1, [], 0, [(.int .i64)]⟩), (.exit 0, ⟨[], [], [], 1, [], 0, []⟩)]
def L0_7 (N : Nat) (k : Nat) (x : (Int) × (List (Instr)) × (Int) × Int) : Option ((Int) ⊕ (Unit)) := loopF (loopStep (E0 N) fuelW 0 7 (bodyAt t15 7) T0_7 O0_7) k x
theorem L0_7_succ (N : Nat) (k : Nat) (v1 : Int) (v2 : List (Instr)) (v3 : Int) (v4 : Int) : L0_7 N (k + 1) (v1, v2, v3, v4) =
  (bif (decide (v4 < v3))
  then (Option.bind (idx v2 v4) fun x5 =>
    (Option.bind (F40 N (x5.1, x5.2.1, x5.2.2.1, x5.2.2.2)) fun y6 =>
    (bif (y6 != (0 : Int))
    then some (Sum.inl (8 : Int))
    else (Option.bind ((bif (x5.1 == (22 : Int))
        then (bif (decide (x5.2.1 ≥ v1))
          then some true
          else (bif (x5.1 == (23 : Int))
            then some (decide (x5.2.2.1 ≥ v1))
            else some false))
        else (bif (x5.1 == (23 : Int))
          then some (decide (x5.2.2.1 ≥ v1))
          else some false))) fun b7 =>
      (bif b7
      then some (Sum.inl (8 : Int))
      else L0_7 N k (v1, v2, v3, (wi64 (v4 + (1 : Int)))))))))
  else some (Sum.inr ())) := by kernel_rfl
def E1 (N : Nat) : SEnv := (E0 N).addLoop N 0 7 T0_7 O0_7
theorem ok1 (N : Nat) : EnvOK tab (E1 N) := (ok0 N).addLoop N 0 7 T0_7 O0_7
end f15
def F15 (N : Nat) (x : List (Instr)) : Option (Int) := fnRun (f15.E1 N) fuelW 15 f15.args f15.ta f15.res f15.tr 0 x
open f15 in
theorem F15_eq (N : Nat) (p0 : List (Instr)) : F15 N p0 =
  (bif ((p0.length : Int) == (0 : Int))
  then some (8 : Int)
  else (bif (decide ((p0.length : Int) > (200 : Int)))
    then some (8 : Int)
    else (Option.bind (idx p0 (wi64 ((p0.length : Int) - (1 : Int)))) fun x0 =>
      (bif (!(x0.1 == (34 : Int) && (x0.2.1 == (-1 : Int) && (x0.2.2.1 == (0 : Int) && (x0.2.2.2 == (0 : Int) && true)))))
      then some (8 : Int)
      else (Option.bind (L0_7 N N ((p0.length : Int), p0, (p0.length : Int), (0 : Int))) fun y8 =>
        (match y8 with
        | .inl a9 => some a9
        | .inr b10 => some (0 : Int))))))) := by kernel_rfl
def c15 (N : Nat) : Sym.Callee := ⟨f15.args, f15.ta, f15.res, f15.tr, 0, F15 N⟩
theorem ok15 (N : Nat) : CalOK tab 15 (c15 N) := fn_ok (f15.ok1 N) fuelW 15 f15.args f15.ta f15.res f15.tr 0

/- wreckage/ops.Slots -/
namespace f44
def cuts : Nat → Nat → Option Outs := fun _ _ => none
def ccut : Nat → Nat → Option Outs := fun _ _ => none
def bcut : Nat → Nat → Option (Nat × Ty) := fun c i => match c, i with
  | 0, 13 => some (34, .bool)
  | 0, 16 => some (46, .bool)
  | _, _ => none
def unr : Nat → Nat → Bool := fun c i => match c, i with
  | 0, 8 => true
  | _, _ => false
def ety : Nat → Nat → Option Ty := fun c d => match c, d with
  | 0, 37 => some (.int .i64)
  | 0, 49 => some (.int .i64)
  | _, _ => none
def args : List PSh := [.agg [.int .u8, .int .i64, .int .i64, .int .i64]]
def ta : List Ty := [(.int .u8), (.int .i64), (.int .i64), (.int .i64)]
def res : List (Bool × List CSh) := [(false, [.sl (.int .i64) .d]), (false, [.sl (.int .i64) .d]), (false, [.int .i64])]
def tr : List Ty := [(.sl (.int .i64)), (.sl (.int .i64)), (.int .i64)]
def E0 (N : Nat) : SEnv := (((SEnv.base tab cuts ccut bcut unr ety).addCal 40 (c40 N)).addCal 55 (c55 N)).addCal 56 (c56 N)
theorem ok0 (N : Nat) : EnvOK tab (E0 N) := (((base_ok tab cuts ccut bcut unr ety).addCal (ok40 N)).addCal (ok55 N)).addCal (ok56 N)
end f44
def F44 (N : Nat) (x : (Int) × (Int) × (Int) × Int) : Option ((List (Int)) × (List (Int)) × Int) := fnRun (f44.E0 N) fuelW 44 f44.args f44.ta f44.res f44.tr 0 x
open f44 in
theorem F44_eq (N : Nat) (p0 : Int) (p1 : Int) (p2 : Int) (p3 : Int) : F44 N (p0, p1, p2, p3) =
  (Option.bind (F40 N (p0, p1, p2, p3)) fun y0 =>
  (bif (y0 != (0 : Int))
  then some ([], [], y0)
  else (Option.bind (F55 N p0) fun y1 =>
    (Option.bind (F56 N (p0, p1, p2, p3)) fun y2 =>
    (Option.bind ((bif y1.2.2.1
      then some (decide (y2.1 ≥ (0 : Int)))
      else some false)) fun b3 =>
    (bif b3
    then (chk (room 1 8)
      ((Option.bind ((bif y1.2.2.2.1
        then some (decide (y2.1 ≥ (0 : Int)))
        else some false)) fun b4 =>
      (bif b4
      then (chk (room 1 8)
        ((Option.bind ((bif y1.2.2.2.2.2.2.1
          then some (decide (y2.2.1 ≥ (0 : Int)))
          else some false)) fun b5 =>
        (bif b5
        then (chk (room (1 + 1) 8)
          ((Option.bind ((bif y1.2.2.2.2.2.2.2.1
            then some (decide (y2.2.1 ≥ (0 : Int)))
            else some false)) fun b6 =>
          (bif b6
          then (chk (room (1 + 1) 8)
            ((Option.bind ((bif y1.2.2.2.2.2.2.2.2.2.2.1
              then some (decide (y2.2.2 ≥ (0 : Int)))
              else some false)) fun b7 =>
            (bif b7
            then (chk (room (2 + 1) 8)
              ((Option.bind ((bif y1.2.2.2.2.2.2.2.2.2.2.2.1
                then some (decide (y2.2.2 ≥ (0 : Int)))
                else some false)) fun b8 =>
              (bif b8
              then (chk (room (2 + 1) 8)
                (some ((([y2.1] ++ [y2.2.1]) ++ [y2.2.2]), (([y2.1] ++ [y2.2.1]) ++ [y2.2.2]), (0 : Int))))
              else some ((([y2.1] ++ [y2.2.1]) ++ [y2.2.2]), ([y2.1] ++ [y2.2.1]), (0 : Int))))))
            else (Option.bind ((bif y1.2.2.2.2.2.2.2.2.2.2.2.1
                then some (decide (y2.2.2 ≥ (0 : Int)))
                else some false)) fun b9 =>
              (bif b9
              then (chk (room (2 + 1) 8)
                (some (([y2.1] ++ [y2.2.1]), (([y2.1] ++ [y2.2.1]) ++ [y2.2.2]), (0 : Int))))
              else some (([y2.1] ++ [y2.2.1]), ([y2.1] ++ [y2.2.1]), (0 : Int))))))))
          else (Option.bind ((bif y1.2.2.2.2.2.2.2.2.2.2.1
              then some (decide (y2.2.2 ≥ (0 : Int)))
              else some false)) fun b10 =>
            (bif b10
            then (chk (room (2 + 1) 8)
              ((Option.bind ((bif y1.2.2.2.2.2.2.2.2.2.2.2.1
                then some (decide (y2.2.2 ≥ (0 : Int)))
                else some false)) fun b11 =>
              (bif b11
              then (chk (room (1 + 1) 8)
                (some ((([y2.1] ++ [y2.2.1]) ++ [y2.2.2]), ([y2.1] ++ [y2.2.2]), (0 : Int))))
              else some ((([y2.1] ++ [y2.2.1]) ++ [y2.2.2]), [y2.1], (0 : Int))))))
            else (Option.bind ((bif y1.2.2.2.2.2.2.2.2.2.2.2.1
                then some (decide (y2.2.2 ≥ (0 : Int)))
                else some false)) fun b12 =>
              (bif b12
              then (chk (room (1 + 1) 8)
                (some (([y2.1] ++ [y2.2.1]), ([y2.1] ++ [y2.2.2]), (0 : Int))))
              else some (([y2.1] ++ [y2.2.1]), [y2.1], (0 : Int))))))))))
        else (Option.bind ((bif y1.2.2.2.2.2.2.2.1
            then some (decide (y2.2.1 ≥ (0 : Int)))
            else some false)) fun b13 =>
          (bif b13
          then (chk (room (1 + 1) 8)
            ((Option.bind ((bif y1.2.2.2.2.2.2.2.2.2.2.1
              then some (decide (y2.2.2 ≥ (0 : Int)))
              else some false)) fun b14 =>
            (bif b14
            then (chk (room (1 + 1) 8)
              ((Option.bind ((bif y1.2.2.2.2.2.2.2.2.2.2.2.1
                then some (decide (y2.2.2 ≥ (0 : Int)))
                else some false)) fun b15 =>
              (bif b15
              then (chk (room (2 + 1) 8)
                (some (([y2.1] ++ [y2.2.2]), (([y2.1] ++ [y2.2.1]) ++ [y2.2.2]), (0 : Int))))
              else some (([y2.1] ++ [y2.2.2]), ([y2.1] ++ [y2.2.1]), (0 : Int))))))
            else (Option.bind ((bif y1.2.2.2.2.2.2.2.2.2.2.2.1
                then some (decide (y2.2.2 ≥ (0 : Int)))
                else some false)) fun b16 =>
              (bif b16
              then (chk (room (2 + 1) 8)
                (some ([y2.1], (([y2.1] ++ [y2.2.1]) ++ [y2.2.2]), (0 : Int))))
              else some ([y2.1], ([y2.1] ++ [y2.2.1]), (0 : Int))))))))
          else (Option.bind ((bif y1.2.2.2.2.2.2.2.2.2.2.1
              then some (decide (y2.2.2 ≥ (0 : Int)))
              else some false)) fun b17 =>
            (bif b17
            then (chk (room (1 + 1) 8)
              ((Option.bind ((bif y1.2.2.2.2.2.2.2.2.2.2.2.1
                then some (decide (y2.2.2 ≥ (0 : Int)))
                else some false)) fun b18 =>
              (bif b18
              then (chk (room (1 + 1) 8)
                (some (([y2.1] ++ [y2.2.2]), ([y2.1] ++ [y2.2.2]), (0 : Int))))
              else some (([y2.1] ++ [y2.2.2]), [y2.1], (0 : Int))))))
            else (Option.bind ((bif y1.2.2.2.2.2.2.2.2.2.2.2.1
                then some (decide (y2.2.2 ≥ (0 : Int)))
                else some false)) fun b19 =>
              (bif b19
              then (chk (room (1 + 1) 8)
                (some ([y2.1], ([y2.1] ++ [y2.2.2]), (0 : Int))))
              else some ([y2.1], [y2.1], (0 : Int))))))))))))
      else (Option.bind ((bif y1.2.2.2.2.2.2.1
          then some (decide (y2.2.1 ≥ (0 : Int)))
          else some false)) fun b20 =>
        (bif b20
        then (chk (room (1 + 1) 8)
          ((Option.bind ((bif y1.2.2.2.2.2.2.2.1
            then some (decide (y2.2.1 ≥ (0 : Int)))
            else some false)) fun b21 =>
          (bif b21
          then (chk (room 1 8)
            ((Option.bind ((bif y1.2.2.2.2.2.2.2.2.2.2.1
              then some (decide (y2.2.2 ≥ (0 : Int)))
              else some false)) fun b22 =>
            (bif b22
            then (chk (room (2 + 1) 8)
              ((Option.bind ((bif y1.2.2.2.2.2.2.2.2.2.2.2.1
                then some (decide (y2.2.2 ≥ (0 : Int)))
                else some false)) fun b23 =>
              (bif b23
              then (chk (room (1 + 1) 8)
                (some ((([y2.1] ++ [y2.2.1]) ++ [y2.2.2]), ([y2.2.1] ++ [y2.2.2]), (0 : Int))))
              else some ((([y2.1] ++ [y2.2.1]) ++ [y2.2.2]), [y2.2.1], (0 : Int))))))
            else (Option.bind ((bif y1.2.2.2.2.2.2.2.2.2.2.2.1
                then some (decide (y2.2.2 ≥ (0 : Int)))
                else some false)) fun b24 =>
              (bif b24
              then (chk (room (1 + 1) 8)
                (some (([y2.1] ++ [y2.2.1]), ([y2.2.1] ++ [y2.2.2]), (0 : Int))))
              else some (([y2.1] ++ [y2.2.1]), [y2.2.1], (0 : Int))))))))
          else (Option.bind ((bif y1.2.2.2.2.2.2.2.2.2.2.1
              then some (decide (y2.2.2 ≥ (0 : Int)))
              else some false)) fun b25 =>
            (bif b25
            then (chk (room (2 + 1) 8)
              ((Option.bind ((bif y1.2.2.2.2.2.2.2.2.2.2.2.1
                then some (decide (y2.2.2 ≥ (0 : Int)))
                else some false)) fun b26 =>
              (bif b26
              then (chk (room 1 8)
                (some ((([y2.1] ++ [y2.2.1]) ++ [y2.2.2]), [y2.2.2], (0 : Int))))
              else some ((([y2.1] ++ [y2.2.1]) ++ [y2.2.2]), [], (0 : Int))))))
            else (Option.bind ((bif y1.2.2.2.2.2.2.2.2.2.2.2.1
                then some (decide (y2.2.2 ≥ (0 : Int)))
                else some false)) fun b27 =>
              (bif b27
              then (chk (room 1 8)
                (some (([y2.1] ++ [y2.2.1]), [y2.2.2], (0 : Int))))
              else some (([y2.1] ++ [y2.2.1]), [], (0 : Int))))))))))
        else (Option.bind ((bif y1.2.2.2.2.2.2.2.1
            then some (decide (y2.2.1 ≥ (0 : Int)))
            else some false)) fun b28 =>
          (bif b28
          then (chk (room 1 8)
            ((Option.bind ((bif y1.2.2.2.2.2.2.2.2.2.2.1
              then some (decide (y2.2.2 ≥ (0 : Int)))
              else some false)) fun b29 =>
            (bif b29
            then (chk (room (1 + 1) 8)
              ((Option.bind ((bif y1.2.2.2.2.2.2.2.2.2.2.2.1
                then some (decide (y2.2.2 ≥ (0 : Int)))
                else some false)) fun b30 =>
              (bif b30
              then (chk (room (1 + 1) 8)
                (some (([y2.1] ++ [y2.2.2]), ([y2.2.1] ++ [y2.2.2]), (0 : Int))))
              else some (([y2.1] ++ [y2.2.2]), [y2.2.1], (0 : Int))))))
            else (Option.bind ((bif y1.2.2.2.2.2.2.2.2.2.2.2.1
                then some (decide (y2.2.2 ≥ (0 : Int)))
                else some false)) fun b31 =>
              (bif b31
              then (chk (room (1 + 1) 8)
                (some ([y2.1], ([y2.2.1] ++ [y2.2.2]), (0 : Int))))
              else some ([y2.1], [y2.2.1], (0 : Int))))))))
          else (Option.bind ((bif y1.2.2.2.2.2.2.2.2.2.2.1
              then some (decide (y2.2.2 ≥ (0 : Int)))
              else some false)) fun b32 =>
            (bif b32
            then (chk (room (1 + 1) 8)
              ((Option.bind ((bif y1.2.2.2.2.2.2.2.2.2.2.2.1
                then some (decide (y2.2.2 ≥ (0 : Int)))
                else some false)) fun b33 =>
              (bif b33
              then (chk (room 1 8)
                (some (([y2.1] ++ [y2.2.2]), [y2.2.2], (0 : Int))))
              else some (([y2.1] ++ [y2.2.2]), [], (0 : Int))))))
            else (Option.bind ((bif y1.2.2.2.2.2.2.2.2.2.2.2.1
                then some (decide (y2.2.2 ≥ (0 : Int)))
                else some false)) fun b34 =>
              (bif b34
              then (chk (room 1 8)
                (some ([y2.1], [y2.2.2], (0 : Int))))
              else some ([y2.1], [], (0 : Int))))))))))))))
    else (Option.bind ((bif y1.2.2.2.1
        then some (decide (y2.1 ≥ (0 : Int)))
        else some false)) fun b35 =>
      (bif b35
      then (chk (room 1 8)
        ((Option.bind ((bif y1.2.2.2.2.2.2.1
          then some (decide (y2.2.1 ≥ (0 : Int)))
          else some false)) fun b36 =>
        (bif b36
        then (chk (room 1 8)
          ((Option.bind ((bif y1.2.2.2.2.2.2.2.1
            then some (decide (y2.2.1 ≥ (0 : Int)))
            else some false)) fun b37 =>
          (bif b37
          then (chk (room (1 + 1) 8)
            ((Option.bind ((bif y1.2.2.2.2.2.2.2.2.2.2.1
              then some (decide (y2.2.2 ≥ (0 : Int)))
              else some false)) fun b38 =>
            (bif b38
            then (chk (room (1 + 1) 8)
              ((Option.bind ((bif y1.2.2.2.2.2.2.2.2.2.2.2.1
                then some (decide (y2.2.2 ≥ (0 : Int)))
                else some false)) fun b39 =>
              (bif b39
              then (chk (room (2 + 1) 8)
                (some (([y2.2.1] ++ [y2.2.2]), (([y2.1] ++ [y2.2.1]) ++ [y2.2.2]), (0 : Int))))
              else some (([y2.2.1] ++ [y2.2.2]), ([y2.1] ++ [y2.2.1]), (0 : Int))))))
            else (Option.bind ((bif y1.2.2.2.2.2.2.2.2.2.2.2.1
                then some (decide (y2.2.2 ≥ (0 : Int)))
                else some false)) fun b40 =>
              (bif b40
              then (chk (room (2 + 1) 8)
                (some ([y2.2.1], (([y2.1] ++ [y2.2.1]) ++ [y2.2.2]), (0 : Int))))
              else some ([y2.2.1], ([y2.1] ++ [y2.2.1]), (0 : Int))))))))
          else (Option.bind ((bif y1.2.2.2.2.2.2.2.2.2.2.1
              then some (decide (y2.2.2 ≥ (0 : Int)))
              else some false)) fun b41 =>
            (bif b41
            then (chk (room (1 + 1) 8)
              ((Option.bind ((bif y1.2.2.2.2.2.2.2.2.2.2.2.1
                then some (decide (y2.2.2 ≥ (0 : Int)))
                else some false)) fun b42 =>
              (bif b42
              then (chk (room (1 + 1) 8)
                (some (([y2.2.1] ++ [y2.2.2]), ([y2.1] ++ [y2.2.2]), (0 : Int))))
              else some (([y2.2.1] ++ [y2.2.2]), [y2.1], (0 : Int))))))
            else (Option.bind ((bif y1.2.2.2.2.2.2.2.2.2.2.2.1
                then some (decide (y2.2.2 ≥ (0 : Int)))
                else some false)) fun b43 =>
              (bif b43
              then (chk (room (1 + 1) 8)
                (some ([y2.2.1], ([y2.1] ++ [y2.2.2]), (0 : Int))))
              else some ([y2.2.1], [y2.1], (0 : Int))))))))))
        else (Option.bind ((bif y1.2.2.2.2.2.2.2.1
            then some (decide (y2.2.1 ≥ (0 : Int)))
            else some false)) fun b44 =>
          (bif b44
          then (chk (room (1 + 1) 8)
            ((Option.bind ((bif y1.2.2.2.2.2.2.2.2.2.2.1
              then some (decide (y2.2.2 ≥ (0 : Int)))
              else some false)) fun b45 =>
            (bif b45
            then (chk (room 1 8)
              ((Option.bind ((bif y1.2.2.2.2.2.2.2.2.2.2.2.1
                then some (decide (y2.2.2 ≥ (0 : Int)))
                else some false)) fun b46 =>
              (bif b46
              then (chk (room (2 + 1) 8)
                (some ([y2.2.2], (([y2.1] ++ [y2.2.1]) ++ [y2.2.2]), (0 : Int))))
              else some ([y2.2.2], ([y2.1] ++ [y2.2.1]), (0 : Int))))))
            else (Option.bind ((bif y1.2.2.2.2.2.2.2.2.2.2.2.1
                then some (decide (y2.2.2 ≥ (0 : Int)))
                else some false)) fun b47 =>
              (bif b47
              then (chk (room (2 + 1) 8)
                (some ([], (([y2.1] ++ [y2.2.1]) ++ [y2.2.2]), (0 : Int))))
              else some ([], ([y2.1] ++ [y2.2.1]), (0 : Int))))))))
          else (Option.bind ((bif y1.2.2.2.2.2.2.2.2.2.2.1
              then some (decide (y2.2.2 ≥ (0 : Int)))
              else some false)) fun b48 =>
            (bif b48
            then (chk (room 1 8)
              ((Option.bind ((bif y1.2.2.2.2.2.2.2.2.2.2.2.1
                then some (decide (y2.2.2 ≥ (0 : Int)))
                else some false)) fun b49 =>
              (bif b49
              then (chk (room (1 + 1) 8)
                (some ([y2.2.2], ([y2.1] ++ [y2.2.2]), (0 : Int))))
              else some ([y2.2.2], [y2.1], (0 : Int))))))
            else (Option.bind ((bif y1.2.2.2.2.2.2.2.2.2.2.2.1
                then some (decide (y2.2.2 ≥ (0 : Int)))
                else some false)) fun b50 =>
              (bif b50
              then (chk (room (1 + 1) 8)
                (some ([], ([y2.1] ++ [y2.2.2]), (0 : Int))))
              else some ([], [y2.1], (0 : Int))))))))))))
      else (Option.bind ((bif y1.2.2.2.2.2.2.1
          then some (decide (y2.2.1 ≥ (0 : Int)))
          else some false)) fun b51 =>
        (bif b51
        then (chk (room 1 8)
          ((Option.bind ((bif y1.2.2.2.2.2.2.2.1
            then some (decide (y2.2.1 ≥ (0 : Int)))
            else some false)) fun b52 =>
          (bif b52
          then (chk (room 1 8)
            ((Option.bind ((bif y1.2.2.2.2.2.2.2.2.2.2.1
              then some (decide (y2.2.2 ≥ (0 : Int)))
              else some false)) fun b53 =>
            (bif b53
            then (chk (room (1 + 1) 8)
              ((Option.bind ((bif y1.2.2.2.2.2.2.2.2.2.2.2.1
                then some (decide (y2.2.2 ≥ (0 : Int)))
                else some false)) fun b54 =>
              (bif b54
              then (chk (room (1 + 1) 8)
                (some (([y2.2.1] ++ [y2.2.2]), ([y2.2.1] ++ [y2.2.2]), (0 : Int))))
              else some (([y2.2.1] ++ [y2.2.2]), [y2.2.1], (0 : Int))))))
            else (Option.bind ((bif y1.2.2.2.2.2.2.2.2.2.2.2.1
                then some (decide (y2.2.2 ≥ (0 : Int)))
                else some false)) fun b55 =>
              (bif b55
              then (chk (room (1 + 1) 8)
                (some ([y2.2.1], ([y2.2.1] ++ [y2.2.2]), (0 : Int))))
              else some ([y2.2.1], [y2.2.1], (0 : Int))))))))
          else (Option.bind ((bif y1.2.2.2.2.2.2.2.2.2.2.1
              then some (decide (y2.2.2 ≥ (0 : Int)))
              else some false)) fun b56 =>
            (bif b56
            then (chk (room (1 + 1) 8)
              ((Option.bind ((bif y1.2.2.2.2.2.2.2.2.2.2.2.1
                then some (decide (y2.2.2 ≥ (0 : Int)))
                else some false)) fun b57 =>
              (bif b57
              then (chk (room 1 8)
                (some (([y2.2.1] ++ [y2.2.2]), [y2.2.2], (0 : Int))))
              else some (([y2.2.1] ++ [y2.2.2]), [], (0 : Int))))))
            else (Option.bind ((bif y1.2.2.2.2.2.2.2.2.2.2.2.1
                then some (decide (y2.2.2 ≥ (0 : Int)))
                else some false)) fun b58 =>
              (bif b58
              then (chk (room 1 8)
                (some ([y2.2.1], [y2.2.2], (0 : Int))))
              else some ([y2.2.1], [], (0 : Int))))))))))
        else (Option.bind ((bif y1.2.2.2.2.2.2.2.1
            then some (decide (y2.2.1 ≥ (0 : Int)))
            else some false)) fun b59 =>
          (bif b59
          then (chk (room 1 8)
            ((Option.bind ((bif y1.2.2.2.2.2.2.2.2.2.2.1
              then some (decide (y2.2.2 ≥ (0 : Int)))
              else some false)) fun b60 =>
            (bif b60
            then (chk (room 1 8)
              ((Option.bind ((bif y1.2.2.2.2.2.2.2.2.2.2.2.1
                then some (decide (y2.2.2 ≥ (0 : Int)))
                else some false)) fun b61 =>
              (bif b61
              then (chk (room (1 + 1) 8)
                (some ([y2.2.2], ([y2.2.1] ++ [y2.2.2]), (0 : Int))))
              else some ([y2.2.2], [y2.2.1], (0 : Int))))))
            else (Option.bind ((bif y1.2.2.2.2.2.2.2.2.2.2.2.1
                then some (decide (y2.2.2 ≥ (0 : Int)))
                else some false)) fun b62 =>
              (bif b62
              then (chk (room (1 + 1) 8)
                (some ([], ([y2.2.1] ++ [y2.2.2]), (0 : Int))))
              else some ([], [y2.2.1], (0 : Int))))))))
          else (Option.bind ((bif y1.2.2.2.2.2.2.2.2.2.2.1
              then some (decide (y2.2.2 ≥ (0 : Int)))
              else some false)) fun b63 =>
            (bif b63
            then (chk (room 1 8)
              ((Option.bind ((bif y1.2.2.2.2.2.2.2.2.2.2.2.1
                then some (decide (y2.2.2 ≥ (0 : Int)))
                else some false)) fun b64 =>
              (bif b64
              then (chk (room 1 8)
                (some ([y2.2.2], [y2.2.2], (0 : Int))))
              else some ([y2.2.2], [], (0 : Int))))))
            else (Option.bind ((bif y1.2.2.2.2.2.2.2.2.2.2.2.1
                then some (decide (y2.2.2 ≥ (0 : Int)))
                else some false)) fun b65 =>
              (bif b65
              then (chk (room 1 8)
                (some ([], [y2.2.2], (0 : Int))))
              else some ([], [], (0 : Int)))))))))))))))))) := by kernel_rfl
def c44 (N : Nat) : Sym.Callee := ⟨f44.args, f44.ta, f44.res, f44.tr, 0, F44 N⟩
theorem ok44 (N : Nat) : CalOK tab 44 (c44 N) := fn_ok (f44.ok0 N) fuelW 44 f44.args f44.ta f44.res f44.tr 0

/- wreckage/flow.mask -/
namespace f45
def cuts : Nat → Nat → Option Outs := fun _ _ => none
def ccut : Nat → Nat → Option Outs := fun _ _ => none
def bcut : Nat → Nat → Option (Nat × Ty) := fun _ _ => none
def unr : Nat → Nat → Bool := fun _ _ => false
def ety : Nat → Nat → Option Ty := fun _ _ => none
def args : List PSh := [.c (.sl (.int .i64) .bor)]
def ta : List Ty := [(.sl (.int .i64))]
def res : List (Bool × List CSh) := [(false, [.int .u64])]
def tr : List Ty := [(.int .u64)]
def E0 (N : Nat) : SEnv := SEnv.base tab cuts ccut bcut unr ety
theorem ok0 (N : Nat) : EnvOK tab (E0 N) := base_ok tab cuts ccut bcut unr ety
def T0_4 : Tmpl := ⟨[(3, .c (.int .u64)), (6, .c (.sl (.int .i64) .bor)), (7, .c (.int .i64)), (8, .c (.int .i64))], [], [], 1, [], 0, [(.int .u64), (.sl (.int .i64)), (.int .i64), (.int .i64)]⟩
def O0_4 : Outs := [(.exit 0, ⟨[(3, .c (.int .u64))], [], [], 1, [], 0, [(.int .u64)]⟩)]
def L0_4 (N : Nat) (k : Nat) (x : (Int) × (List (Int)) × (Int) × Int) : Option ((Int)) := loopF (loopStep (E0 N) fuelW 0 4 (bodyAt t45 4) T0_4 O0_4) k x
theorem L0_4_succ (N : Nat) (k : Nat) (v0 : Int) (v1 : List (Int)) (v2 : Int) (v3 : Int) : L0_4 N (k + 1) (v0, v1, v2, v3) =
  (bif (decide (v3 < v2))
  then (Option.bind (idx v1 v3) fun x4 =>
    (chk (!decide (x4 < 0))
    (L0_4 N k ((ior .u64 v0 (wu64 ((1 : Int) * (2 ^ min (Int.toNat x4) 64)))), v1, v2, (wi64 (v3 + (1 : Int)))))))
  else some v0) := by kernel_rfl
def E1 (N : Nat) : SEnv := (E0 N).addLoop N 0 4 T0_4 O0_4
theorem ok1 (N : Nat) : EnvOK tab (E1 N) := (ok0 N).addLoop N 0 4 T0_4 O0_4
end f45
def F45 (N : Nat) (x : List (Int)) : Option (Int) := fnRun (f45.E1 N) fuelW 45 f45.args f45.ta f45.res f45.tr 0 x
open f45 in
theorem F45_eq (N : Nat) (p0 : List (Int)) : F45 N p0 =
  (Option.bind (L0_4 N N ((0 : Int), p0, (p0.length : Int), (0 : Int))) fun y5 =>
  some y5) := by kernel_rfl
def c45 (N : Nat) : Sym.Callee := ⟨f45.args, f45.ta, f45.res, f45.tr, 0, F45 N⟩
theorem ok45 (N : Nat) : CalOK tab 45 (c45 N) := fn_ok (f45.ok1 N) fuelW 45 f45.args f45.ta f45.res f45.tr 0

/- wreckage/flow.behind -/
namespace f36
def cuts : Nat → Nat → Option Outs := fun _ _ => none
def ccut : Nat → Nat → Option Outs := fun _ _ => none
def bcut : Nat → Nat → Option (Nat × Ty) := fun c i => match c, i with
  | 0, 7 => some (13, .bool)
  | 0, 5 => some (13, .bool)
  | _, _ => none
def unr : Nat → Nat → Bool := fun _ _ => false
def ety : Nat → Nat → Option Ty := fun c d => match c, d with
  | 0, 21 => some (.int .i64)
  | 0, 28 => some (.int .i64)
  | 0, 35 => some (.int .i64)
  | _, _ => none
def args : List PSh := [.c (.sl TInstr .bor), .c (.int .i64)]
def ta : List Ty := [(.sl TInstr), (.int .i64)]
def res : List (Bool × List CSh) := [(false, [.sl (.int .i64) .d])]
def tr : List Ty := [(.sl (.int .i64))]
def E0 (N : Nat) : SEnv := SEnv.base tab cuts ccut bcut unr ety
theorem ok0 (N : Nat) : EnvOK tab (E0 N) := base_ok tab cuts ccut bcut unr ety
end f36
def F36 (N : Nat) (x : (List (Instr)) × Int) : Option (List (Int)) := fnRun (f36.E0 N) fuelW 36 f36.args f36.ta f36.res f36.tr 0 x
open f36 in
theorem F36_eq (N : Nat) (p0 : List (Instr)) (p1 : Int) : F36 N (p0, p1) =
  (Option.bind (idx p0 p1) fun x0 =>
  (Option.bind ((bif (x0.1 == (34 : Int))
    then some true
    else (Option.bind ((bif (x0.1 == (28 : Int))
        then some true
        else some (x0.1 == (30 : Int)))) fun b1 =>
      some b1))) fun b2 =>
  (bif b2
  then some []
  else (bif (x0.1 == (22 : Int))
    then some [x0.2.1]
    else (bif (x0.1 == (23 : Int))
      then (chk (decide ([(wi64 (p1 + (1 : Int))), x0.2.2.1].length < 4611686018427387904))
        ((chk (decide ((sortI [(wi64 (p1 + (1 : Int))), x0.2.2.1]).length < 4611686018427387904))
        (some (compI (sortI [(wi64 (p1 + (1 : Int))), x0.2.2.1]))))))
      else some [(wi64 (p1 + (1 : Int)))]))))) := by kernel_rfl
def c36 (N : Nat) : Sym.Callee := ⟨f36.args, f36.ta, f36.res, f36.tr, 0, F36 N⟩
theorem ok36 (N : Nat) : CalOK tab 36 (c36 N) := fn_ok (f36.ok0 N) fuelW 36 f36.args f36.ta f36.res f36.tr 0

/- wreckage/flow.Masks -/
namespace f23
def cuts : Nat → Nat → Option Outs := fun _ _ => none
def ccut : Nat → Nat → Option Outs := fun _ _ => none
def bcut : Nat → Nat → Option (Nat × Ty) := fun c i => match c, i with
  | 0, 5 => some (36, .bool)
  | _, _ => none
def unr : Nat → Nat → Bool := fun _ _ => false
def ety : Nat → Nat → Option Ty := fun c d => match c, d with
  | 0, 39 => some (.int .u64)
  | 0, 74 => some (.int .u64)
  | 0, 77 => some .bool
  | 1080000, 10 => some (.int .i64)
  | 1080000, 39 => some (.int .i64)
  | _, _ => none
def args : List PSh := [.c (.sl TInstr .bor), .c (.int .i64), .c (.int .i64)]
def ta : List Ty := [(.sl TInstr), (.int .i64), (.int .i64)]
def res : List (Bool × List CSh) := [(false, [.sl (.int .u64) .d]), (false, [.int .i64])]
def tr : List Ty := [(.sl (.int .u64)), (.int .i64)]
def E0 (N : Nat) : SEnv := ((((SEnv.base tab cuts ccut bcut unr ety).addCal 15 (c15 N)).addCal 44 (c44 N)).addCal 45 (c45 N)).addCal 36 (c36 N)
theorem ok0 (N : Nat) : EnvOK tab (E0 N) := ((((base_ok tab cuts ccut bcut unr ety).addCal (ok15 N)).addCal (ok44 N)).addCal (ok45 N)).addCal (ok36 N)
def T0_11 : Tmpl := ⟨[(0, .c (.sl TInstr .bor)), (2, .c (.int .i64)), (4, .c (.ptr 0 4 0 0 0)), (9, .c (.ptr 0 9 1 0 0)), (40, .c (.sl TInstr .bor)), (41, .c (.int .i64)), (42, .c (.int .i64))], [], [(0, 4, .box 0 [.int .i64]), (0, 9, .box 1 [.ref 0 39 2 (.int .u64)]), (0, 39, .row 2 (.int .u64))], 1, [], 3, [(.sl TInstr), (.int .i64), (.sl TInstr), (.int .i64), (.int .i64), (.int .i64), (.sl (.int .u64))]⟩
def O0_11 : Outs := [(.ret, ⟨[(6, .c (.nil true)), (7, .c (.int .i64))], [], [], 1, [], 0, [(.int .i64)]⟩), (.exit 0, ⟨[(0, .c (.sl TInstr .bor)), (4, .c (.ptr 0 4 0 0 0)), (9, .c (.ptr 0 9 1 0 0))], [], [(0, 4, .box 0 [.int .i64]), (0, 9, .box 1 [.ref 0 39 2 (.int .u64)]), (0, 39, .row 2 (.int .u64))], 1, [], 3, [(.sl TInstr), (.int .i64), (.sl (.int .u64))]⟩)]
def L0_11 (N : Nat) (k : Nat) (x : (List (Instr)) × (Int) × (List (Instr)) × (Int) × (Int) × (Int) × List (Int)) : Option ((Int) ⊕ ((List (Instr)) × (Int) × List (Int))) := loopF (loopStep (E0 N) fuelW 0 11 (bodyAt t23 11) T0_11 O0_11) k x
theorem L0_11_succ (N : Nat) (k : Nat) (v2 : List (Instr)) (v3 : Int) (v4 : List (Instr)) (v5 : Int) (v6 : Int) (v7 : Int) (v8 : List (Int)) : L0_11 N (k + 1) (v2, v3, v4, v5, v6, v7, v8) =
  (bif (decide (v6 < v5))
  then (Option.bind (idx v4 v6) fun x9 =>
    (Option.bind (F44 N (x9.1, x9.2.1, x9.2.2.1, x9.2.2.2)) fun y10 =>
    (bif (y10.2.2 != (0 : Int))
    then some (Sum.inl y10.2.2)
    else (Option.bind (F45 N y10.2.1) fun y11 =>
      (chk (inR v6 v8.length)
      ((Option.bind (v8[(Int.toNat v6)]?) fun x12 =>
      (Option.bind (F45 N y10.1) fun y13 =>
      (chk (inR v6 (v8.set (Int.toNat v6) y11).length)
      ((Option.bind ((v8.set (Int.toNat v6) y11)[(Int.toNat v6)]?) fun x14 =>
      (chk (!decide (v3 < 0))
      ((bif ((Int.fdiv (ior .u64 y13 x14) (2 ^ min (Int.toNat v3) 64)) != (0 : Int))
      then some (Sum.inl (16 : Int))
      else L0_11 N k (v2, v3, v4, v5, (wi64 (v6 + (1 : Int))), v7, (v8.set (Int.toNat v6) y11))))))))))))))))
  else some (Sum.inr (v2, v7, v8))) := by kernel_rfl
def E1 (N : Nat) : SEnv := (E0 N).addLoop N 0 11 T0_11 O0_11
theorem ok1 (N : Nat) : EnvOK tab (E1 N) := (ok0 N).addLoop N 0 11 T0_11 O0_11
def T1080000_11 : Tmpl := ⟨[(0, .c (.sl TInstr .bor)), (1, .clo 46 [.ptr 0 4 0 0 0, .ptr 0 16 1 0 0, .ptr 0 15 2 0 0, .ptr 0 9 3 0 0]), (4, .c (.ref 1 10 4 (.int .i64))), (5, .c (.int .i64)), (27, .c (.sl (.int .i64) .d)), (28, .c (.int .i64)), (29, .c (.int .i64))], [[(15, .c (.ptr 0 15 2 0 0))]], [(0, 4, .box 0 [.int .i64]), (0, 16, .box 1 [.ref 0 77 5 .bool]), (0, 77, .row 5 .bool), (0, 15, .box 2 [.ref 0 74 6 (.int .u64)]), (0, 74, .row 6 (.int .u64)), (0, 9, .box 3 [.ref 0 39 7 (.int .u64)]), (0, 39, .row 7 (.int .u64)), (1, 10, .row 4 (.int .i64))], 2, [], 8, [(.sl TInstr), (.int .i64), (.sl (.int .i64)), (.int .i64), (.int .i64), (.int .i64), (.sl .bool), (.sl (.int .u64)), (.sl (.int .u64)), (.sl (.int .i64))]⟩
def O1080000_11 : Outs := [(.exit 2, ⟨[(0, .c (.sl TInstr .bor)), (1, .clo 46 [.ptr 0 4 0 0 0, .ptr 0 16 1 0 0, .ptr 0 15 2 0 0, .ptr 0 9 3 0 0]), (4, .c (.ref 1 10 4 (.int .i64)))], [[(15, .c (.ptr 0 15 2 0 0))]], [(0, 4, .box 0 [.int .i64]), (0, 16, .box 1 [.ref 0 77 5 .bool]), (0, 77, .row 5 .bool), (0, 15, .box 2 [.ref 0 74 6 (.int .u64)]), (0, 74, .row 6 (.int .u64)), (0, 9, .box 3 [.ref 0 39 7 (.int .u64)]), (0, 39, .row 7 (.int .u64)), (1, 10, .row 4 (.int .i64))], 2, [], 8, [(.sl TInstr), (.int .i64), (.sl .bool), (.sl (.int .u64)), (.sl (.int .u64)), (.sl (.int .i64))]⟩)]
def L1080000_11 (N : Nat) (k : Nat) (x : (List (Instr)) × (Int) × (List (Int)) × (Int) × (Int) × (Int) × (List (Bool)) × (List (Int)) × (List (Int)) × List (Int)) : Option (((List (Instr)) × (Int) × (List (Bool)) × (List (Int)) × (List (Int)) × List (Int))) := loopF (loopStep (E1 N) fuelW 1080000 11 (bodyAt t38 11) T1080000_11 O1080000_11) k x
theorem L1080000_11_succ (N : Nat) (k : Nat) (v28 : List (Instr)) (v29 : Int) (v30 : List (Int)) (v31 : Int) (v32 : Int) (v33 : Int) (v34 : List (Bool)) (v35 : List (Int)) (v36 : List (Int)) (v37 : List (Int)) : L1080000_11 N (k + 1) (v28, v29, v30, v31, v32, v33, v34, v35, v36, v37) =
  (bif (decide (v32 < v31))
  then (Option.bind (idx v30 v32) fun x38 =>
    (bif (decide (v29 < (0 : Int)))
    then (chk (!decide (v33 < 0))
      ((chk (inR x38 v34.length)
      ((Option.bind (v34[(Int.toNat x38)]?) fun x39 =>
      (chk (inR x38 v35.length)
      ((Option.bind (v35[(Int.toNat x38)]?) fun x40 =>
      (chk (room (v37.length + 1) 8)
      (L1080000_11 N k (v28, v29, v30, v31, (wi64 (v32 + (1 : Int))), v33, (v34.set (Int.toNat x38) true), (v35.set (Int.toNat x38) (wu64 ((wu64 ((1 : Int) * (2 ^ min (Int.toNat v33) 64))) - (1 : Int)))), v36, (v37 ++ [x38]))))))))))))
    else (chk (inR v29 v35.length)
      ((Option.bind (v35[(Int.toNat v29)]?) fun x41 =>
      (chk (inR v29 v36.length)
      ((Option.bind (v36[(Int.toNat v29)]?) fun x42 =>
      (chk (inR x38 v34.length)
      ((Option.bind (v34[(Int.toNat x38)]?) fun x43 =>
      (bif (!x43)
      then (chk (inR x38 v34.length)
        ((Option.bind (v34[(Int.toNat x38)]?) fun x44 =>
        (chk (inR x38 v35.length)
        ((Option.bind (v35[(Int.toNat x38)]?) fun x45 =>
        (chk (room (v37.length + 1) 8)
        (L1080000_11 N k (v28, v29, v30, v31, (wi64 (v32 + (1 : Int))), v33, (v34.set (Int.toNat x38) true), (v35.set (Int.toNat x38) (ior .u64 x41 x42)), v36, (v37 ++ [x38]))))))))))
      else (chk (inR x38 v35.length)
        ((Option.bind (v35[(Int.toNat x38)]?) fun x46 =>
        (chk (inR x38 v35.length)
        ((Option.bind (v35[(Int.toNat x38)]?) fun x47 =>
        (chk (inR x38 v35.length)
        ((Option.bind (v35[(Int.toNat x38)]?) fun x48 =>
        (chk (inR x38 (v35.set (Int.toNat x38) (iand .u64 x47 (ior .u64 x41 x42))).length)
        ((Option.bind ((v35.set (Int.toNat x38) (iand .u64 x47 (ior .u64 x41 x42)))[(Int.toNat x38)]?) fun x49 =>
        (bif (x49 != x46)
        then (chk (room (v37.length + 1) 8)
          (L1080000_11 N k (v28, v29, v30, v31, (wi64 (v32 + (1 : Int))), v33, v34, (v35.set (Int.toNat x38) (iand .u64 x47 (ior .u64 x41 x42))), v36, (v37 ++ [x38]))))
        else L1080000_11 N k (v28, v29, v30, v31, (wi64 (v32 + (1 : Int))), v33, v34, (v35.set (Int.toNat x38) (iand .u64 x47 (ior .u64 x41 x42))), v36, v37))))))))))))))))))))))))))
  else some (v28, v33, v34, v35, v36, v37)) := by kernel_rfl
def E2 (N : Nat) : SEnv := (E1 N).addLoop N 1080000 11 T1080000_11 O1080000_11
theorem ok2 (N : Nat) : EnvOK tab (E2 N) := (ok1 N).addLoop N 1080000 11 T1080000_11 O1080000_11
def T1080000_3 : Tmpl := ⟨[(0, .c (.sl TInstr .bor)), (1, .clo 46 [.ptr 0 4 0 0 0, .ptr 0 16 1 0 0, .ptr 0 15 2 0 0, .ptr 0 9 3 0 0]), (4, .c (.ref 1 10 4 (.int .i64)))], [[(15, .c (.ptr 0 15 2 0 0))]], [(0, 4, .box 0 [.int .i64]), (0, 16, .box 1 [.ref 0 77 5 .bool]), (0, 77, .row 5 .bool), (0, 15, .box 2 [.ref 0 74 6 (.int .u64)]), (0, 74, .row 6 (.int .u64)), (0, 9, .box 3 [.ref 0 39 7 (.int .u64)]), (0, 39, .row 7 (.int .u64)), (1, 10, .row 4 (.int .i64))], 2, [], 8, [(.sl TInstr), (.int .i64), (.sl .bool), (.sl (.int .u64)), (.sl (.int .u64)), (.sl (.int .i64))]⟩
def O1080000_3 : Outs := [(.exit 0, ⟨[], [[(15, .c (.ptr 0 15 0 0 0))]], [(0, 15, .box 0 [.ref 0 74 1 (.int .u64)]), (0, 74, .row 1 (.int .u64))], 2, [], 2, [(.sl (.int .u64))]⟩)]
def L1080000_3 (N : Nat) (k : Nat) (x : (List (Instr)) × (Int) × (List (Bool)) × (List (Int)) × (List (Int)) × List (Int)) : Option ((List (Int))) := loopF (loopStep (E2 N) fuelW 1080000 3 (bodyAt t38 3) T1080000_3 O1080000_3) k x
theorem L1080000_3_succ (N : Nat) (k : Nat) (v20 : List (Instr)) (v21 : Int) (v22 : List (Bool)) (v23 : List (Int)) (v24 : List (Int)) (v25 : List (Int)) : L1080000_3 N (k + 1) (v20, v21, v22, v23, v24, v25) =
  (bif (decide ((v25.length : Int) > (0 : Int)))
  then (chk (inR (wi64 ((v25.length : Int) - (1 : Int))) v25.length)
    ((Option.bind (v25[(Int.toNat (wi64 ((v25.length : Int) - (1 : Int))))]?) fun x26 =>
    (chk (decide (0 ≤ (wi64 ((v25.length : Int) - (1 : Int)))))
    ((chk (decide ((Int.toNat (wi64 ((v25.length : Int) - (1 : Int)))) ≤ v25.length))
    ((Option.bind (F36 N (v20, x26)) fun y27 =>
    (Option.bind (L1080000_11 N N (v20, x26, y27, (y27.length : Int), (0 : Int), v21, v22, v23, v24, (v25.take (Int.toNat (wi64 ((v25.length : Int) - (1 : Int))))))) fun y50 =>
    L1080000_3 N k (y50.1, y50.2.1, y50.2.2.1, y50.2.2.2.1, y50.2.2.2.2.1, y50.2.2.2.2.2))))))))))
  else some v23) := by kernel_rfl
def E3 (N : Nat) : SEnv := (E2 N).addLoop N 1080000 3 T1080000_3 O1080000_3
theorem ok3 (N : Nat) : EnvOK tab (E3 N) := (ok2 N).addLoop N 1080000 3 T1080000_3 O1080000_3
end f23
def F23 (N : Nat) (x : (List (Instr)) × (Int) × Int) : Option ((List (Int)) × Int) := fnRun (f23.E3 N) fuelW 23 f23.args f23.ta f23.res f23.tr 0 x
open f23 in
theorem F23_eq (N : Nat) (p0 : List (Instr)) (p1 : Int) (p2 : Int) : F23 N (p0, p1, p2) =
  (Option.bind (F15 N p0) fun y0 =>
  (bif (y0 != (0 : Int))
  then some ([], y0)
  else (Option.bind ((bif (decide (p2 < (0 : Int)))
      then some true
      else (bif (decide (p2 > (16 : Int)))
        then some true
        else (bif (decide (p1 < (0 : Int)))
          then some true
          else some (decide (p1 > p2)))))) fun b1 =>
    (bif b1
    then some ([], (2 : Int))
    else (chk (decide (0 ≤ (p0.length : Int)))
      ((chk (decide (0 ≤ (p0.length : Int)))
      ((chk (decide ((Int.toNat (p0.length : Int)) ≤ (Int.toNat (p0.length : Int))) && room (Int.toNat (p0.length : Int)) 8)
      ((Option.bind (L0_11 N N (p0, p2, p0, (p0.length : Int), (0 : Int), p1, (List.replicate (Int.toNat (p0.length : Int)) (0 : Int)))) fun y15 =>
      (match y15 with
      | .inl a16 => some ([], a16)
      | .inr b17 => (chk (decide (0 ≤ (b17.1.length : Int)))
        ((chk (decide (0 ≤ (b17.1.length : Int)))
        ((chk (decide ((Int.toNat (b17.1.length : Int)) ≤ (Int.toNat (b17.1.length : Int))) && room (Int.toNat (b17.1.length : Int)) 8)
        ((chk (decide (0 ≤ (b17.1.length : Int)))
        ((chk (decide (0 ≤ (b17.1.length : Int)))
        ((chk (decide ((Int.toNat (b17.1.length : Int)) ≤ (Int.toNat (b17.1.length : Int))) && room (Int.toNat (b17.1.length : Int)) 1)
        ((chk (!decide (b17.2.1 < 0))
        ((chk (inR (0 : Int) (List.replicate (Int.toNat (b17.1.length : Int)) false).length)
        ((Option.bind ((List.replicate (Int.toNat (b17.1.length : Int)) false)[(Int.toNat (0 : Int))]?) fun x18 =>
        (chk (inR (0 : Int) (List.replicate (Int.toNat (b17.1.length : Int)) (0 : Int)).length)
        ((Option.bind ((List.replicate (Int.toNat (b17.1.length : Int)) (0 : Int))[(Int.toNat (0 : Int))]?) fun x19 =>
        (Option.bind (L1080000_3 N N (b17.1, b17.2.1, ((List.replicate (Int.toNat (b17.1.length : Int)) false).set (Int.toNat (0 : Int)) true), ((List.replicate (Int.toNat (b17.1.length : Int)) (0 : Int)).set (Int.toNat (0 : Int)) (wu64 ((wu64 ((1 : Int) * (2 ^ min (Int.toNat b17.2.1) 64))) - (1 : Int)))), b17.2.2, [(0 : Int)])) fun y51 =>
        (chk (inR (wi64 ((y51.length : Int) - (1 : Int))) y51.length)
        ((Option.bind (y51[(Int.toNat (wi64 ((y51.length : Int) - (1 : Int))))]?) fun x52 =>
        some ((y51.set (Int.toNat (wi64 ((y51.length : Int) - (1 : Int)))) (0 : Int)), (0 : Int)))))))))))))))))))))))))))))))))))))) := by kernel_rfl
def c23 (N : Nat) : Sym.Callee := ⟨f23.args, f23.ta, f23.res, f23.tr, 0, F23 N⟩
theorem ok23 (N : Nat) : CalOK tab 23 (c23 N) := fn_ok (f23.ok3 N) fuelW 23 f23.args f23.ta f23.res f23.tr 0

/- wreckage/wreckageref07.SameMasks -/
namespace f31
def cuts : Nat → Nat → Option Outs := fun _ _ => none
def ccut : Nat → Nat → Option Outs := fun _ _ => none
def bcut : Nat → Nat → Option (Nat × Ty) := fun _ _ => none
def unr : Nat → Nat → Bool := fun _ _ => false
def ety : Nat → Nat → Option Ty := fun _ _ => none
def args : List PSh := [.c (.sl (.int .u64) .bor), .c (.sl (.int .u64) .bor)]
def ta : List Ty := [(.sl (.int .u64)), (.sl (.int .u64))]
def res : List (Bool × List CSh) := [(false, [.bool])]
def tr : List Ty := [.bool]
def E0 (N : Nat) : SEnv := SEnv.base tab cuts ccut bcut unr ety
theorem ok0 (N : Nat) : EnvOK tab (E0 N) := base_ok tab cuts ccut bcut unr ety
def T0_6 : Tmpl := ⟨[(0, .c (.sl (.int .u64) .bor)), (1, .c (.sl (.int .u64) .bor)), (5, .c (.int .i64))], [], [], 1, [], 0, [(.sl (.int .u64)), (.sl (.int .u64)), (.int .i64)]⟩
def O0_6 : Outs := [(.ret, ⟨[(4, .c (.bool))], [], [], 1, [], 0, [.bool]⟩), (.exit 0, ⟨[], [], [], 1, [], 0, []⟩)]
def L0_6 (N : Nat) (k : Nat) (x : (List (Int)) × (List (Int)) × Int) : Option ((Bool) ⊕ (Unit)) := loopF (loopStep (E0 N) fuelW 0 6 (bodyAt t31 6) T0_6 O0_6) k x
theorem L0_6_succ (N : Nat) (k : Nat) (v0 : List (Int)) (v1 : List (Int)) (v2 : Int) : L0_6 N (k + 1) (v0, v1, v2) =
  (bif (decide (v2 < (v0.length : Int)))
  then (Option.bind (idx v0 v2) fun x3 =>
    (Option.bind (idx v1 v2) fun x4 =>
    (bif (x3 != x4)
    then some (Sum.inl false)
    else L0_6 N k (v0, v1, (wi64 (v2 + (1 : Int)))))))
  else some (Sum.inr ())) := by kernel_rfl
def E1 (N : Nat) : SEnv := (E0 N).addLoop N 0 6 T0_6 O0_6
theorem ok1 (N : Nat) : EnvOK tab (E1 N) := (ok0 N).addLoop N 0 6 T0_6 O0_6
end f31
def F31 (N : Nat) (x : (List (Int)) × List (Int)) : Option (Bool) := fnRun (f31.E1 N) fuelW 31 f31.args f31.ta f31.res f31.tr 0 x
open f31 in
theorem F31_eq (N : Nat) (p0 : List (Int)) (p1 : List (Int)) : F31 N (p0, p1) =
  (bif ((p0.length : Int) != (p1.length : Int))
  then some false
  else (Option.bind (L0_6 N N (p0, p1, (0 : Int))) fun y5 =>
    (match y5 with
    | .inl a6 => some a6
    | .inr b7 => some true))) := by kernel_rfl
def c31 (N : Nat) : Sym.Callee := ⟨f31.args, f31.ta, f31.res, f31.tr, 0, F31 N⟩
theorem ok31 (N : Nat) : CalOK tab 31 (c31 N) := fn_ok (f31.ok1 N) fuelW 31 f31.args f31.ta f31.res f31.tr 0

/- wreckage/wreckagelaw07.alive -/
namespace f22
def cuts : Nat → Nat → Option Outs := fun _ _ => none
def ccut : Nat → Nat → Option Outs := fun _ _ => none
def bcut : Nat → Nat → Option (Nat × Ty) := fun _ _ => none
def unr : Nat → Nat → Bool := fun _ _ => false
def ety : Nat → Nat → Option Ty := fun _ _ => none
def args : List PSh := []
def ta : List Ty := []
def res : List (Bool × List CSh) := [(false, [.bool])]
def tr : List Ty := [.bool]
def E0 (N : Nat) : SEnv := (((SEnv.base tab cuts ccut bcut unr ety).addCal 43 (c43 N)).addCal 23 (c23 N)).addCal 31 (c31 N)
theorem ok0 (N : Nat) : EnvOK tab (E0 N) := (((base_ok tab cuts ccut bcut unr ety).addCal (ok43 N)).addCal (ok23 N)).addCal (ok31 N)
end f22
def F22 (N : Nat) (x : Unit) : Option (Bool) := fnRun (f22.E0 N) fuelW 22 f22.args f22.ta f22.res f22.tr 0 x
open f22 in
theorem F22_eq (N : Nat) : F22 N () =
  (Option.bind (F43 N ((4 : Int), (1 : Int), (0 : Int), (0 : Int))) fun y0 =>
  (Option.bind (F23 N (y0, (1 : Int), (3 : Int))) fun y1 =>
  (Option.bind (F43 N ((31 : Int), (0 : Int), (0 : Int), (0 : Int))) fun y2 =>
  (Option.bind (F23 N (y2, (1 : Int), (3 : Int))) fun y3 =>
  (bif (y1.2 == (0 : Int))
  then (Option.bind (F31 N (y1.1, [(1 : Int), (1 : Int), (3 : Int), (1 : Int), (3 : Int), (0 : Int)])) fun y4 =>
    (bif y4
    then (bif (y3.2 == (0 : Int))
      then (Option.bind (F31 N (y3.1, [(1 : Int), (1 : Int), (3 : Int), (1 : Int), (1 : Int), (0 : Int)])) fun y5 =>
        some y5)
      else some false)
    else some false))
  else some false))))) := by kernel_rfl
def c22 (N : Nat) : Sym.Callee := ⟨f22.args, f22.ta, f22.res, f22.tr, 0, F22 N⟩
theorem ok22 (N : Nat) : CalOK tab 22 (c22 N) := fn_ok (f22.ok0 N) fuelW 22 f22.args f22.ta f22.res f22.tr 0

/- wreckage/flow.Reached -/
namespace f13
def cuts : Nat → Nat → Option Outs := fun _ _ => none
def ccut : Nat → Nat → Option Outs := fun _ _ => none
def bcut : Nat → Nat → Option (Nat × Ty) := fun _ _ => none
def unr : Nat → Nat → Bool := fun _ _ => false
def ety : Nat → Nat → Option Ty := fun c d => match c, d with
  | 0, 13 => some .bool
  | 1016000, 10 => some (.int .i64)
  | 1016000, 39 => some (.int .i64)
  | _, _ => none
def args : List PSh := [.c (.sl TInstr .bor)]
def ta : List Ty := [(.sl TInstr)]
def res : List (Bool × List CSh) := [(false, [.sl .bool .d]), (false, [.int .i64])]
def tr : List Ty := [(.sl .bool), (.int .i64)]
def E0 (N : Nat) : SEnv := ((SEnv.base tab cuts ccut bcut unr ety).addCal 15 (c15 N)).addCal 36 (c36 N)
theorem ok0 (N : Nat) : EnvOK tab (E0 N) := ((base_ok tab cuts ccut bcut unr ety).addCal (ok15 N)).addCal (ok36 N)
def T1016000_11 : Tmpl := ⟨[(0, .c (.sl TInstr .bor)), (1, .clo 39 [.ptr 0 5 0 0 0]), (4, .c (.ref 1 10 1 (.int .i64))), (5, .c (.int .i64)), (27, .c (.sl (.int .i64) .d)), (28, .c (.int .i64)), (29, .c (.int .i64))], [[(5, .c (.ptr 0 5 0 0 0))]], [(0, 5, .box 0 [.ref 0 13 2 .bool]), (0, 13, .row 2 .bool), (1, 10, .row 1 (.int .i64))], 2, [], 3, [(.sl TInstr), (.int .i64), (.sl (.int .i64)), (.int .i64), (.int .i64), (.sl .bool), (.sl (.int .i64))]⟩
def O1016000_11 : Outs := [(.exit 2, ⟨[(0, .c (.sl TInstr .bor)), (1, .clo 39 [.ptr 0 5 0 0 0]), (4, .c (.ref 1 10 1 (.int .i64)))], [[(5, .c (.ptr 0 5 0 0 0))]], [(0, 5, .box 0 [.ref 0 13 2 .bool]), (0, 13, .row 2 .bool), (1, 10, .row 1 (.int .i64))], 2, [], 3, [(.sl TInstr), (.sl .bool), (.sl (.int .i64))]⟩)]
def L1016000_11 (N : Nat) (k : Nat) (x : (List (Instr)) × (Int) × (List (Int)) × (Int) × (Int) × (List (Bool)) × List (Int)) : Option (((List (Instr)) × (List (Bool)) × List (Int))) := loopF (loopStep (E0 N) fuelW 1016000 11 (bodyAt t38 11) T1016000_11 O1016000_11) k x
theorem L1016000_11_succ (N : Nat) (k : Nat) (v8 : List (Instr)) (v9 : Int) (v10 : List (Int)) (v11 : Int) (v12 : Int) (v13 : List (Bool)) (v14 : List (Int)) : L1016000_11 N (k + 1) (v8, v9, v10, v11, v12, v13, v14) =
  (bif (decide (v12 < v11))
  then (Option.bind (idx v10 v12) fun x15 =>
    (chk (inR x15 v13.length)
    ((Option.bind (v13[(Int.toNat x15)]?) fun x16 =>
    (chk (inR x15 v13.length)
    ((Option.bind (v13[(Int.toNat x15)]?) fun x17 =>
    (bif (!x16)
    then (chk (room (v14.length + 1) 8)
      (L1016000_11 N k (v8, v9, v10, v11, (wi64 (v12 + (1 : Int))), (v13.set (Int.toNat x15) true), (v14 ++ [x15]))))
    else L1016000_11 N k (v8, v9, v10, v11, (wi64 (v12 + (1 : Int))), (v13.set (Int.toNat x15) true), v14)))))))))
  else some (v8, v13, v14)) := by kernel_rfl
def E1 (N : Nat) : SEnv := (E0 N).addLoop N 1016000 11 T1016000_11 O1016000_11
theorem ok1 (N : Nat) : EnvOK tab (E1 N) := (ok0 N).addLoop N 1016000 11 T1016000_11 O1016000_11
def T1016000_3 : Tmpl := ⟨[(0, .c (.sl TInstr .bor)), (1, .clo 39 [.ptr 0 5 0 0 0]), (4, .c (.ref 1 10 1 (.int .i64)))], [[(5, .c (.ptr 0 5 0 0 0))]], [(0, 5, .box 0 [.ref 0 13 2 .bool]), (0, 13, .row 2 .bool), (1, 10, .row 1 (.int .i64))], 2, [], 3, [(.sl TInstr), (.sl .bool), (.sl (.int .i64))]⟩
def O1016000_3 : Outs := [(.exit 0, ⟨[], [[(5, .c (.ptr 0 5 0 0 0))]], [(0, 5, .box 0 [.ref 0 13 1 .bool]), (0, 13, .row 1 .bool)], 2, [], 2, [(.sl .bool)]⟩)]
def L1016000_3 (N : Nat) (k : Nat) (x : (List (Instr)) × (List (Bool)) × List (Int)) : Option ((List (Bool))) := loopF (loopStep (E1 N) fuelW 1016000 3 (bodyAt t38 3) T1016000_3 O1016000_3) k x
theorem L1016000_3_succ (N : Nat) (k : Nat) (v3 : List (Instr)) (v4 : List (Bool)) (v5 : List (Int)) : L1016000_3 N (k + 1) (v3, v4, v5) =
  (bif (decide ((v5.length : Int) > (0 : Int)))
  then (chk (inR (wi64 ((v5.length : Int) - (1 : Int))) v5.length)
    ((Option.bind (v5[(Int.toNat (wi64 ((v5.length : Int) - (1 : Int))))]?) fun x6 =>
    (chk (decide (0 ≤ (wi64 ((v5.length : Int) - (1 : Int)))))
    ((chk (decide ((Int.toNat (wi64 ((v5.length : Int) - (1 : Int)))) ≤ v5.length))
    ((Option.bind (F36 N (v3, x6)) fun y7 =>
    (Option.bind (L1016000_11 N N (v3, x6, y7, (y7.length : Int), (0 : Int), v4, (v5.take (Int.toNat (wi64 ((v5.length : Int) - (1 : Int))))))) fun y18 =>
    L1016000_3 N k (y18.1, y18.2.1, y18.2.2))))))))))
  else some v4) := by kernel_rfl
def E2 (N : Nat) : SEnv := (E1 N).addLoop N 1016000 3 T1016000_3 O1016000_3
theorem ok2 (N : Nat) : EnvOK tab (E2 N) := (ok1 N).addLoop N 1016000 3 T1016000_3 O1016000_3
end f13
def F13 (N : Nat) (x : List (Instr)) : Option ((List (Bool)) × Int) := fnRun (f13.E2 N) fuelW 13 f13.args f13.ta f13.res f13.tr 0 x
open f13 in
theorem F13_eq (N : Nat) (p0 : List (Instr)) : F13 N p0 =
  (Option.bind (F15 N p0) fun y0 =>
  (bif (y0 != (0 : Int))
  then some ([], y0)
  else (chk (decide (0 ≤ (p0.length : Int)))
    ((chk (decide (0 ≤ (p0.length : Int)))
    ((chk (decide ((Int.toNat (p0.length : Int)) ≤ (Int.toNat (p0.length : Int))) && room (Int.toNat (p0.length : Int)) 1)
    ((chk (inR (0 : Int) (List.replicate (Int.toNat (p0.length : Int)) false).length)
    ((Option.bind ((List.replicate (Int.toNat (p0.length : Int)) false)[(Int.toNat (0 : Int))]?) fun x1 =>
    (chk (inR (0 : Int) (List.replicate (Int.toNat (p0.length : Int)) false).length)
    ((Option.bind ((List.replicate (Int.toNat (p0.length : Int)) false)[(Int.toNat (0 : Int))]?) fun x2 =>
    (Option.bind (L1016000_3 N N (p0, ((List.replicate (Int.toNat (p0.length : Int)) false).set (Int.toNat (0 : Int)) true), [(0 : Int)])) fun y19 =>
    (chk (inR (wi64 ((y19.length : Int) - (1 : Int))) y19.length)
    ((Option.bind (y19[(Int.toNat (wi64 ((y19.length : Int) - (1 : Int))))]?) fun x20 =>
    some ((y19.set (Int.toNat (wi64 ((y19.length : Int) - (1 : Int)))) true), (0 : Int)))))))))))))))))))) := by kernel_rfl
def c13 (N : Nat) : Sym.Callee := ⟨f13.args, f13.ta, f13.res, f13.tr, 0, F13 N⟩
theorem ok13 (N : Nat) : CalOK tab 13 (c13 N) := fn_ok (f13.ok2 N) fuelW 13 f13.args f13.ta f13.res f13.tr 0

/- wreckage/flow.Depths$1 -/
namespace f49
def cuts : Nat → Nat → Option Outs := fun _ _ => none
def ccut : Nat → Nat → Option Outs := fun _ _ => none
def bcut : Nat → Nat → Option (Nat × Ty) := fun c i => match c, i with
  | 0, 1 => some (2, .bool)
  | _, _ => none
def unr : Nat → Nat → Bool := fun _ _ => false
def ety : Nat → Nat → Option Ty := fun _ _ => none
def args : List PSh := [.c (.int .i64)]
def ta : List Ty := [(.int .i64)]
def res : List (Bool × List CSh) := [(false, [.bool])]
def tr : List Ty := [.bool]
def E0 (N : Nat) : SEnv := SEnv.base tab cuts ccut bcut unr ety
theorem ok0 (N : Nat) : EnvOK tab (E0 N) := base_ok tab cuts ccut bcut unr ety
end f49
def F49 (N : Nat) (x : Int) : Option (Bool) := fnRun (f49.E0 N) fuelW 49 f49.args f49.ta f49.res f49.tr 0 x
open f49 in
theorem F49_eq (N : Nat) (p0 : Int) : F49 N p0 =
  (Option.bind ((bif (decide (p0 < (-4096 : Int)))
    then some true
    else some (decide (p0 > (4096 : Int))))) fun b0 =>
  some b0) := by kernel_rfl
def c49 (N : Nat) : Sym.Callee := ⟨f49.args, f49.ta, f49.res, f49.tr, 0, F49 N⟩
theorem ok49 (N : Nat) : CalOK tab 49 (c49 N) := fn_ok (f49.ok0 N) fuelW 49 f49.args f49.ta f49.res f49.tr 0

/- wreckage/flow.Depths -/
namespace f29
def cuts : Nat → Nat → Option Outs := fun c i => match c, i with
  | 0, 10 => some [(.normal, ⟨[(7, .c (.ptr 0 7 0 0 0)), (43, .c (.bool))], [], [(0, 7, .box 0 [.ref 0 26 1 (.int .i64)]), (0, 26, .row 1 (.int .i64))], 1, [], 2, [.bool, (.sl (.int .i64))]⟩)]
  | 0, 9 => some [(.normal, ⟨[(7, .c (.ptr 0 7 0 0 0)), (9, .c (.ptr 0 9 1 0 0))], [], [(0, 7, .box 0 [.ref 0 26 2 (.int .i64)]), (0, 26, .row 2 (.int .i64)), (0, 9, .box 1 [.bool])], 1, [], 3, [(.sl (.int .i64)), .bool]⟩)]
  | 0, 6 => some [(.ret, ⟨[(4, .c (.nil true)), (5, .c (.int .i64))], [], [], 1, [], 0, [(.int .i64)]⟩), (.normal, ⟨[(0, .c (.sl TInstr .bor)), (3, .c (.ptr 0 3 0 0 0))], [], [(0, 3, .box 0 [.sl (.int .i64) .bor])], 1, [], 1, [(.sl TInstr), (.sl (.int .i64))]⟩)]
  | 0, 5 => some [(.normal, ⟨[(0, .c (.sl TInstr .bor)), (3, .c (.ptr 0 3 0 0 0)), (23, .c (.bool))], [], [(0, 3, .box 0 [.sl (.int .i64) .bor])], 1, [], 1, [(.sl TInstr), .bool, (.sl (.int .i64))]⟩)]
  | 0, 3 => some [(.ret, ⟨[(4, .c (.nil true)), (5, .c (.int .i64))], [], [], 1, [], 0, [(.int .i64)]⟩), (.normal, ⟨[(0, .c (.sl TInstr .bor)), (3, .c (.ptr 0 3 0 0 0))], [], [(0, 3, .box 0 [.sl (.int .i64) .bor])], 1, [], 1, [(.sl TInstr), (.sl (.int .i64))]⟩)]
  | _, _ => none
def ccut : Nat → Nat → Option Outs := fun _ _ => none
def bcut : Nat → Nat → Option (Nat × Ty) := fun c i => match c, i with
  | 1032001009000, 5 => some (40, .bool)
  | 1032001009000, 8 => some (48, .bool)
  | 1032001036000, 3 => some (9, (.int .i64))
  | 1032001036000, 5 => some (40, .bool)
  | 1032001036000, 8 => some (48, .bool)
  | _, _ => none
def unr : Nat → Nat → Bool := fun _ _ => false
def ety : Nat → Nat → Option Ty := fun c d => match c, d with
  | 0, 26 => some (.int .i64)
  | 0, 29 => some .bool
  | 1032000, 10 => some (.int .i64)
  | 1032000, 39 => some (.int .i64)
  | _, _ => none
def args : List PSh := [.c (.sl TInstr .bor), .c (.sl (.int .i64) .bor)]
def ta : List Ty := [(.sl TInstr), (.sl (.int .i64))]
def res : List (Bool × List CSh) := [(false, [.sl (.int .i64) .d]), (false, [.int .i64])]
def tr : List Ty := [(.sl (.int .i64)), (.int .i64)]
def E0 (N : Nat) : SEnv := (((SEnv.base tab cuts ccut bcut unr ety).addCal 15 (c15 N)).addCal 49 (c49 N)).addCal 36 (c36 N)
theorem ok0 (N : Nat) : EnvOK tab (E0 N) := (((base_ok tab cuts ccut bcut unr ety).addCal (ok15 N)).addCal (ok49 N)).addCal (ok36 N)
def T1022001007000_3 : Tmpl := ⟨[(0, .c (.sl (.int .i64) .bor)), (1, .clo 49 []), (7, .c (.int .i64)), (8, .c (.int .i64))], [[], [(3, .c (.ptr 0 3 0 0 0))]], [(0, 3, .box 0 [.sl (.int .i64) .bor])], 3, [], 1, [(.sl (.int .i64)), (.int .i64), (.int .i64), (.sl (.int .i64))]⟩
def O1022001007000_3 : Outs := [(.ret, ⟨[(4, .c (.int .i64))], [[], [(3, .c (.ptr 0 3 0 0 0))]], [(0, 3, .box 0 [.sl (.int .i64) .bor])], 3, [], 1, [(.int .i64), (.sl (.int .i64))]⟩), (.exit 0, ⟨[], [[], [(3, .c (.ptr 0 3 0 0 0))]], [(0, 3, .box 0 [.sl (.int .i64) .bor])], 3, [], 1, [(.sl (.int .i64))]⟩)]
def L1022001007000_3 (N : Nat) (k : Nat) (x : (List (Int)) × (Int) × (Int) × List (Int)) : Option (((Int) × List (Int)) ⊕ (List (Int))) := loopF (loopStep (E0 N) fuelW 1022001007000 3 (bodyAt t60 3) T1022001007000_3 O1022001007000_3) k x
theorem L1022001007000_3_succ (N : Nat) (k : Nat) (v4 : List (Int)) (v5 : Int) (v6 : Int) (v7 : List (Int)) : L1022001007000_3 N (k + 1) (v4, v5, v6, v7) =
  (bif (decide (v6 < v5))
  then (Option.bind (idx v4 v6) fun x8 =>
    (Option.bind (F49 N x8) fun y9 =>
    (bif y9
    then some (Sum.inl (v6, v7))
    else L1022001007000_3 N k (v4, v5, (wi64 (v6 + (1 : Int))), v7))))
  else some (Sum.inr v7)) := by kernel_rfl
def E1 (N : Nat) : SEnv := (E0 N).addLoop N 1022001007000 3 T1022001007000_3 O1022001007000_3
theorem ok1 (N : Nat) : EnvOK tab (E1 N) := (ok0 N).addLoop N 1022001007000 3 T1022001007000_3 O1022001007000_3
def T1032000_11 : Tmpl := ⟨[(0, .c (.sl TInstr .bor)), (1, .clo 50 [.ptr 0 7 0 0 0, .ptr 0 3 1 0 0, .ptr 0 8 2 0 0, .ptr 0 9 3 0 0]), (4, .c (.ref 1 10 4 (.int .i64))), (5, .c (.int .i64)), (27, .c (.sl (.int .i64) .d)), (28, .c (.int .i64)), (29, .c (.int .i64))], [[(7, .c (.ptr 0 7 0 0 0)), (9, .c (.ptr 0 9 3 0 0))]], [(0, 7, .box 0 [.ref 0 26 5 (.int .i64)]), (0, 26, .row 5 (.int .i64)), (0, 3, .box 1 [.sl (.int .i64) .bor]), (0, 8, .box 2 [.ref 0 29 6 .bool]), (0, 29, .row 6 .bool), (0, 9, .box 3 [.bool]), (1, 10, .row 4 (.int .i64))], 2, [], 7, [(.sl TInstr), (.int .i64), (.sl (.int .i64)), (.int .i64), (.int .i64), (.sl (.int .i64)), (.sl (.int .i64)), (.sl .bool), .bool, (.sl (.int .i64))]⟩
def O1032000_11 : Outs := [(.exit 2, ⟨[(0, .c (.sl TInstr .bor)), (1, .clo 50 [.ptr 0 7 0 0 0, .ptr 0 3 1 0 0, .ptr 0 8 2 0 0, .ptr 0 9 3 0 0]), (4, .c (.ref 1 10 4 (.int .i64)))], [[(7, .c (.ptr 0 7 0 0 0)), (9, .c (.ptr 0 9 3 0 0))]], [(0, 7, .box 0 [.ref 0 26 5 (.int .i64)]), (0, 26, .row 5 (.int .i64)), (0, 3, .box 1 [.sl (.int .i64) .bor]), (0, 8, .box 2 [.ref 0 29 6 .bool]), (0, 29, .row 6 .bool), (0, 9, .box 3 [.bool]), (1, 10, .row 4 (.int .i64))], 2, [], 7, [(.sl TInstr), (.sl (.int .i64)), (.sl (.int .i64)), (.sl .bool), .bool, (.sl (.int .i64))]⟩)]
def L1032000_11 (N : Nat) (k : Nat) (x : (List (Instr)) × (Int) × (List (Int)) × (Int) × (Int) × (List (Int)) × (List (Int)) × (List (Bool)) × (Bool) × List (Int)) : Option (((List (Instr)) × (List (Int)) × (List (Int)) × (List (Bool)) × (Bool) × List (Int))) := loopF (loopStep (E1 N) fuelW 1032000 11 (bodyAt t38 11) T1032000_11 O1032000_11) k x
theorem L1032000_11_succ (N : Nat) (k : Nat) (v30 : List (Instr)) (v31 : Int) (v32 : List (Int)) (v33 : Int) (v34 : Int) (v35 : List (Int)) (v36 : List (Int)) (v37 : List (Bool)) (v38 : Bool) (v39 : List (Int)) : L1032000_11 N (k + 1) (v30, v31, v32, v33, v34, v35, v36, v37, v38, v39) =
  (bif (decide (v34 < v33))
  then (Option.bind (idx v32 v34) fun x40 =>
    (Option.bind ((bif (decide (v31 ≥ (0 : Int)))
      then (chk (inR v31 v35.length)
        ((Option.bind (v35[(Int.toNat v31)]?) fun x41 =>
        (Option.bind (idx v36 v31) fun x42 =>
        some (wi64 (x41 + x42))))))
      else some (0 : Int))) fun b43 =>
    (Option.bind ((bif (decide (b43 < (0 : Int)))
      then some true
      else (bif (decide (b43 > (4096 : Int)))
        then some true
        else (chk (inR x40 v37.length)
          ((Option.bind (v37[(Int.toNat x40)]?) fun x44 =>
          (bif x44
          then (chk (inR x40 v35.length)
            ((Option.bind (v35[(Int.toNat x40)]?) fun x45 =>
            some (x45 != b43))))
          else some false))))))) fun b46 =>
    (bif b46
    then (Option.bind ((chk (inR x40 v37.length)
        ((Option.bind (v37[(Int.toNat x40)]?) fun x47 =>
        (bif x47
        then some true
        else some (!false)))))) fun b48 =>
      (bif b48
      then L1032000_11 N k (v30, v31, v32, v33, (wi64 (v34 + (1 : Int))), v35, v36, v37, false, v39)
      else (chk (inR x40 v37.length)
        ((Option.bind (v37[(Int.toNat x40)]?) fun x49 =>
        (chk (inR x40 v35.length)
        ((Option.bind (v35[(Int.toNat x40)]?) fun x50 =>
        (chk (room (v39.length + 1) 8)
        (L1032000_11 N k (v30, v31, v32, v33, (wi64 (v34 + (1 : Int))), (v35.set (Int.toNat x40) b43), v36, (v37.set (Int.toNat x40) true), false, (v39 ++ [x40]))))))))))))
    else (Option.bind ((chk (inR x40 v37.length)
        ((Option.bind (v37[(Int.toNat x40)]?) fun x51 =>
        (bif x51
        then some true
        else some (!v38)))))) fun b52 =>
      (bif b52
      then L1032000_11 N k (v30, v31, v32, v33, (wi64 (v34 + (1 : Int))), v35, v36, v37, v38, v39)
      else (chk (inR x40 v37.length)
        ((Option.bind (v37[(Int.toNat x40)]?) fun x53 =>
        (chk (inR x40 v35.length)
        ((Option.bind (v35[(Int.toNat x40)]?) fun x54 =>
        (chk (room (v39.length + 1) 8)
        (L1032000_11 N k (v30, v31, v32, v33, (wi64 (v34 + (1 : Int))), (v35.set (Int.toNat x40) b43), v36, (v37.set (Int.toNat x40) true), v38, (v39 ++ [x40]))))))))))))))))
  else some (v30, v35, v36, v37, v38, v39)) := by kernel_rfl
def E2 (N : Nat) : SEnv := (E1 N).addLoop N 1032000 11 T1032000_11 O1032000_11
theorem ok2 (N : Nat) : EnvOK tab (E2 N) := (ok1 N).addLoop N 1032000 11 T1032000_11 O1032000_11
def T1032000_3 : Tmpl := ⟨[(0, .c (.sl TInstr .bor)), (1, .clo 50 [.ptr 0 7 0 0 0, .ptr 0 3 1 0 0, .ptr 0 8 2 0 0, .ptr 0 9 3 0 0]), (4, .c (.ref 1 10 4 (.int .i64)))], [[(7, .c (.ptr 0 7 0 0 0)), (9, .c (.ptr 0 9 3 0 0))]], [(0, 7, .box 0 [.ref 0 26 5 (.int .i64)]), (0, 26, .row 5 (.int .i64)), (0, 3, .box 1 [.sl (.int .i64) .bor]), (0, 8, .box 2 [.ref 0 29 6 .bool]), (0, 29, .row 6 .bool), (0, 9, .box 3 [.bool]), (1, 10, .row 4 (.int .i64))], 2, [], 7, [(.sl TInstr), (.sl (.int .i64)), (.sl (.int .i64)), (.sl .bool), .bool, (.sl (.int .i64))]⟩
def O1032000_3 : Outs := [(.exit 0, ⟨[], [[(7, .c (.ptr 0 7 0 0 0)), (9, .c (.ptr 0 9 1 0 0))]], [(0, 7, .box 0 [.ref 0 26 2 (.int .i64)]), (0, 26, .row 2 (.int .i64)), (0, 9, .box 1 [.bool])], 2, [], 3, [(.sl (.int .i64)), .bool]⟩)]
def L1032000_3 (N : Nat) (k : Nat) (x : (List (Instr)) × (List (Int)) × (List (Int)) × (List (Bool)) × (Bool) × List (Int)) : Option (((List (Int)) × Bool)) := loopF (loopStep (E2 N) fuelW 1032000 3 (bodyAt t38 3) T1032000_3 O1032000_3) k x
theorem L1032000_3_succ (N : Nat) (k : Nat) (v22 : List (Instr)) (v23 : List (Int)) (v24 : List (Int)) (v25 : List (Bool)) (v26 : Bool) (v27 : List (Int)) : L1032000_3 N (k + 1) (v22, v23, v24, v25, v26, v27) =
  (bif (decide ((v27.length : Int) > (0 : Int)))
  then (chk (inR (wi64 ((v27.length : Int) - (1 : Int))) v27.length)
    ((Option.bind (v27[(Int.toNat (wi64 ((v27.length : Int) - (1 : Int))))]?) fun x28 =>
    (chk (decide (0 ≤ (wi64 ((v27.length : Int) - (1 : Int)))))
    ((chk (decide ((Int.toNat (wi64 ((v27.length : Int) - (1 : Int)))) ≤ v27.length))
    ((Option.bind (F36 N (v22, x28)) fun y29 =>
    (Option.bind (L1032000_11 N N (v22, x28, y29, (y29.length : Int), (0 : Int), v23, v24, v25, v26, (v27.take (Int.toNat (wi64 ((v27.length : Int) - (1 : Int))))))) fun y55 =>
    L1032000_3 N k (y55.1, y55.2.1, y55.2.2.1, y55.2.2.2.1, y55.2.2.2.2.1, y55.2.2.2.2.2))))))))))
  else some (v23, v26)) := by kernel_rfl
def E3 (N : Nat) : SEnv := (E2 N).addLoop N 1032000 3 T1032000_3 O1032000_3
theorem ok3 (N : Nat) : EnvOK tab (E3 N) := (ok2 N).addLoop N 1032000 3 T1032000_3 O1032000_3
end f29
def F29 (N : Nat) (x : (List (Instr)) × List (Int)) : Option ((List (Int)) × Int) := fnRun (f29.E3 N) fuelW 29 f29.args f29.ta f29.res f29.tr 0 x
open f29 in
theorem F29_eq (N : Nat) (p0 : List (Instr)) (p1 : List (Int)) : F29 N (p0, p1) =
  (Option.bind (F15 N p0) fun y0 =>
  (Option.bind ((bif (y0 != (0 : Int))
    then some (Sum.inl y0)
    else some (Sum.inr (p0, p1)))) fun y1 =>
  (match y1 with
  | .inl a2 => some ([], a2)
  | .inr b3 => (Option.bind ((bif ((b3.2.length : Int) != (b3.1.length : Int))
      then some (b3.1, true, b3.2)
      else (Option.bind (L1022001007000_3 N N (b3.2, (b3.2.length : Int), (0 : Int), b3.2)) fun y10 =>
        (match y10 with
        | .inl a11 => some (b3.1, (decide (a11.1 ≥ (0 : Int))), a11.2)
        | .inr b12 => some (b3.1, (decide ((-1 : Int) ≥ (0 : Int))), b12))))) fun y13 =>
    (Option.bind ((bif y13.2.1
      then some (Sum.inl (2 : Int))
      else some (Sum.inr (y13.1, y13.2.2)))) fun y14 =>
    (match y14 with
    | .inl a15 => some ([], a15)
    | .inr b16 => (chk (decide (0 ≤ (b16.1.length : Int)))
      ((chk (decide (0 ≤ (b16.1.length : Int)))
      ((chk (decide ((Int.toNat (b16.1.length : Int)) ≤ (Int.toNat (b16.1.length : Int))) && room (Int.toNat (b16.1.length : Int)) 8)
      ((chk (decide (0 ≤ (b16.1.length : Int)))
      ((chk (decide (0 ≤ (b16.1.length : Int)))
      ((chk (decide ((Int.toNat (b16.1.length : Int)) ≤ (Int.toNat (b16.1.length : Int))) && room (Int.toNat (b16.1.length : Int)) 1)
      ((Option.bind ((Option.bind ((chk (inR (0 : Int) (List.replicate (Int.toNat (b16.1.length : Int)) false).length)
          ((Option.bind ((List.replicate (Int.toNat (b16.1.length : Int)) false)[(Int.toNat (0 : Int))]?) fun x17 =>
          (bif x17
          then (chk (inR (0 : Int) (List.replicate (Int.toNat (b16.1.length : Int)) (0 : Int)).length)
            ((Option.bind ((List.replicate (Int.toNat (b16.1.length : Int)) (0 : Int))[(Int.toNat (0 : Int))]?) fun x18 =>
            some (x18 != (0 : Int)))))
          else some false))))) fun b19 =>
        (bif b19
        then (Option.bind ((chk (inR (0 : Int) (List.replicate (Int.toNat (b16.1.length : Int)) false).length)
            ((Option.bind ((List.replicate (Int.toNat (b16.1.length : Int)) false)[(Int.toNat (0 : Int))]?) fun x20 =>
            (bif x20
            then some true
            else some (!false)))))) fun b21 =>
          (bif b21
          then (Option.bind (L1032000_3 N N (b16.1, (List.replicate (Int.toNat (b16.1.length : Int)) (0 : Int)), b16.2, (List.replicate (Int.toNat (b16.1.length : Int)) false), false, [(0 : Int)])) fun y56 =>
            some (y56.1, y56.2))
          else (chk (inR (0 : Int) (List.replicate (Int.toNat (b16.1.length : Int)) false).length)
            ((Option.bind ((List.replicate (Int.toNat (b16.1.length : Int)) false)[(Int.toNat (0 : Int))]?) fun x57 =>
            (chk (inR (0 : Int) (List.replicate (Int.toNat (b16.1.length : Int)) (0 : Int)).length)
            ((Option.bind ((List.replicate (Int.toNat (b16.1.length : Int)) (0 : Int))[(Int.toNat (0 : Int))]?) fun x58 =>
            (Option.bind (L1032000_3 N N (b16.1, ((List.replicate (Int.toNat (b16.1.length : Int)) (0 : Int)).set (Int.toNat (0 : Int)) (0 : Int)), b16.2, ((List.replicate (Int.toNat (b16.1.length : Int)) false).set (Int.toNat (0 : Int)) true), false, [(0 : Int)])) fun y59 =>
            some (y59.1, y59.2))))))))))
        else (Option.bind ((chk (inR (0 : Int) (List.replicate (Int.toNat (b16.1.length : Int)) false).length)
            ((Option.bind ((List.replicate (Int.toNat (b16.1.length : Int)) false)[(Int.toNat (0 : Int))]?) fun x60 =>
            (bif x60
            then some true
            else some (!true)))))) fun b61 =>
          (bif b61
          then (Option.bind (L1032000_3 N N (b16.1, (List.replicate (Int.toNat (b16.1.length : Int)) (0 : Int)), b16.2, (List.replicate (Int.toNat (b16.1.length : Int)) false), true, [(0 : Int)])) fun y62 =>
            some (y62.1, y62.2))
          else (chk (inR (0 : Int) (List.replicate (Int.toNat (b16.1.length : Int)) false).length)
            ((Option.bind ((List.replicate (Int.toNat (b16.1.length : Int)) false)[(Int.toNat (0 : Int))]?) fun x63 =>
            (chk (inR (0 : Int) (List.replicate (Int.toNat (b16.1.length : Int)) (0 : Int)).length)
            ((Option.bind ((List.replicate (Int.toNat (b16.1.length : Int)) (0 : Int))[(Int.toNat (0 : Int))]?) fun x64 =>
            (Option.bind (L1032000_3 N N (b16.1, ((List.replicate (Int.toNat (b16.1.length : Int)) (0 : Int)).set (Int.toNat (0 : Int)) (0 : Int)), b16.2, ((List.replicate (Int.toNat (b16.1.length : Int)) false).set (Int.toNat (0 : Int)) true), true, [(0 : Int)])) fun y65 =>
            some (y65.1, y65.2))))))))))))) fun y66 =>
      (Option.bind ((bif (!y66.2)
        then some (true, y66.1)
        else (chk (inR (wi64 ((y66.1.length : Int) - (1 : Int))) y66.1.length)
          ((Option.bind (y66.1[(Int.toNat (wi64 ((y66.1.length : Int) - (1 : Int))))]?) fun x67 =>
          some ((x67 != (0 : Int)), y66.1)))))) fun y68 =>
      (bif y68.1
      then some ([], (36 : Int))
      else some (y68.2, (0 : Int))))))))))))))))))))))) := by kernel_rfl
def c29 (N : Nat) : Sym.Callee := ⟨f29.args, f29.ta, f29.res, f29.tr, 0, F29 N⟩
theorem ok29 (N : Nat) : CalOK tab 29 (c29 N) := fn_ok (f29.ok3 N) fuelW 29 f29.args f29.ta f29.res f29.tr 0

/- wreckage/flow.Next -/
namespace f11
def cuts : Nat → Nat → Option Outs := fun _ _ => none
def ccut : Nat → Nat → Option Outs := fun _ _ => none
def bcut : Nat → Nat → Option (Nat × Ty) := fun c i => match c, i with
  | 0, 5 => some (19, .bool)
  | _, _ => none
def unr : Nat → Nat → Bool := fun _ _ => false
def ety : Nat → Nat → Option Ty := fun _ _ => none
def args : List PSh := [.c (.sl TInstr .bor), .c (.int .i64)]
def ta : List Ty := [(.sl TInstr), (.int .i64)]
def res : List (Bool × List CSh) := [(false, [.sl (.int .i64) .d]), (false, [.int .i64])]
def tr : List Ty := [(.sl (.int .i64)), (.int .i64)]
def E0 (N : Nat) : SEnv := ((SEnv.base tab cuts ccut bcut unr ety).addCal 15 (c15 N)).addCal 36 (c36 N)
theorem ok0 (N : Nat) : EnvOK tab (E0 N) := ((base_ok tab cuts ccut bcut unr ety).addCal (ok15 N)).addCal (ok36 N)
end f11
def F11 (N : Nat) (x : (List (Instr)) × Int) : Option ((List (Int)) × Int) := fnRun (f11.E0 N) fuelW 11 f11.args f11.ta f11.res f11.tr 0 x
open f11 in
theorem F11_eq (N : Nat) (p0 : List (Instr)) (p1 : Int) : F11 N (p0, p1) =
  (Option.bind (F15 N p0) fun y0 =>
  (bif (y0 != (0 : Int))
  then some ([], y0)
  else (Option.bind ((bif (decide (p1 < (0 : Int)))
      then some true
      else some (decide (p1 ≥ (p0.length : Int))))) fun b1 =>
    (bif b1
    then some ([], (2 : Int))
    else (Option.bind (F36 N (p0, p1)) fun y2 =>
      some (y2, (0 : Int))))))) := by kernel_rfl
def c11 (N : Nat) : Sym.Callee := ⟨f11.args, f11.ta, f11.res, f11.tr, 0, F11 N⟩
theorem ok11 (N : Nat) : CalOK tab 11 (c11 N) := fn_ok (f11.ok0 N) fuelW 11 f11.args f11.ta f11.res f11.tr 0

/- wreckage/wreckageref07.Written -/
namespace f35
def cuts : Nat → Nat → Option Outs := fun _ _ => none
def ccut : Nat → Nat → Option Outs := fun _ _ => none
def bcut : Nat → Nat → Option (Nat × Ty) := fun _ _ => none
def unr : Nat → Nat → Bool := fun _ _ => false
def ety : Nat → Nat → Option Ty := fun _ _ => none
def args : List PSh := [.agg [.int .u8, .int .i64, .int .i64, .int .i64]]
def ta : List Ty := [(.int .u8), (.int .i64), (.int .i64), (.int .i64)]
def res : List (Bool × List CSh) := [(false, [.int .u64])]
def tr : List Ty := [(.int .u64)]
def E0 (N : Nat) : SEnv := (SEnv.base tab cuts ccut bcut unr ety).addCal 52 (c52 N)
theorem ok0 (N : Nat) : EnvOK tab (E0 N) := (base_ok tab cuts ccut bcut unr ety).addCal (ok52 N)
def T0_5 : Tmpl := ⟨[(4, .c (.sl (.int .i64) .d)), (5, .c (.int .u64)), (6, .c (.int .i64))], [], [], 1, [], 0, [(.sl (.int .i64)), (.int .u64), (.int .i64)]⟩
def O0_5 : Outs := [(.exit 0, ⟨[(5, .c (.int .u64))], [], [], 1, [], 0, [(.int .u64)]⟩)]
def L0_5 (N : Nat) (k : Nat) (x : (List (Int)) × (Int) × Int) : Option ((Int)) := loopF (loopStep (E0 N) fuelW 0 5 (bodyAt t35 5) T0_5 O0_5) k x
theorem L0_5_succ (N : Nat) (k : Nat) (v1 : List (Int)) (v2 : Int) (v3 : Int) : L0_5 N (k + 1) (v1, v2, v3) =
  (bif (decide (v3 < (v1.length : Int)))
  then (Option.bind (idx v1 v3) fun x4 =>
    (chk (!decide (x4 < 0))
    (L0_5 N k (v1, (ior .u64 v2 (wu64 ((1 : Int) * (2 ^ min (Int.toNat x4) 64)))), (wi64 (v3 + (1 : Int)))))))
  else some v2) := by kernel_rfl
def E1 (N : Nat) : SEnv := (E0 N).addLoop N 0 5 T0_5 O0_5
theorem ok1 (N : Nat) : EnvOK tab (E1 N) := (ok0 N).addLoop N 0 5 T0_5 O0_5
end f35
def F35 (N : Nat) (x : (Int) × (Int) × (Int) × Int) : Option (Int) := fnRun (f35.E1 N) fuelW 35 f35.args f35.ta f35.res f35.tr 0 x
open f35 in
theorem F35_eq (N : Nat) (p0 : Int) (p1 : Int) (p2 : Int) (p3 : Int) : F35 N (p0, p1, p2, p3) =
  (Option.bind (F52 N (p0, p1, p2, p3)) fun y0 =>
  (Option.bind (L0_5 N N (y0.2, (0 : Int), (0 : Int))) fun y5 =>
  some y5)) := by kernel_rfl
def c35 (N : Nat) : Sym.Callee := ⟨f35.args, f35.ta, f35.res, f35.tr, 0, F35 N⟩
theorem ok35 (N : Nat) : CalOK tab 35 (c35 N) := fn_ok (f35.ok1 N) fuelW 35 f35.args f35.ta f35.res f35.tr 0

/- wreckage/wreckagelaw07.FlowWalk -/
namespace f9
def cuts : Nat → Nat → Option Outs := fun _ _ => none
def ccut : Nat → Nat → Option Outs := fun _ _ => none
def bcut : Nat → Nat → Option (Nat × Ty) := fun c i => match c, i with
  | 0, 1 => some (43, .bool)
  | 0, 7 => some (101, .bool)
  | 0, 17 => some (135, .bool)
  | 0, 24 => some (159, .bool)
  | 0, 29 => some (190, .bool)
  | _, _ => none
def unr : Nat → Nat → Bool := fun _ _ => false
def ety : Nat → Nat → Option Ty := fun _ _ => none
def args : List PSh := [.c (.sl TInstr .d), .c (.int .i64), .c (.int .i64), .c (.sl (.int .i64) .d), .c (.sl (.int .i64) .d)]
def ta : List Ty := [(.sl TInstr), (.int .i64), (.int .i64), (.sl (.int .i64)), (.sl (.int .i64))]
def res : List (Bool × List CSh) := [(false, [.bool])]
def tr : List Ty := [.bool]
def E0 (N : Nat) : SEnv := ((((((((((SEnv.base tab cuts ccut bcut unr ety).addCal 20 (c20 N)).addCal 21 (c21 N)).addCal 32 (c32 N)).addCal 22 (c22 N)).addCal 23 (c23 N)).addCal 13 (c13 N)).addCal 29 (c29 N)).addCal 25 (c25 N)).addCal 11 (c11 N)).addCal 35 (c35 N)
theorem ok0 (N : Nat) : EnvOK tab (E0 N) := ((((((((((base_ok tab cuts ccut bcut unr ety).addCal (ok20 N)).addCal (ok21 N)).addCal (ok32 N)).addCal (ok22 N)).addCal (ok23 N)).addCal (ok13 N)).addCal (ok29 N)).addCal (ok25 N)).addCal (ok11 N)).addCal (ok35 N)
def T0_13 : Tmpl := ⟨[(0, .c (.sl TInstr .d)), (3, .c (.sl (.int .i64) .d)), (4, .c (.sl (.int .i64) .d)), (11, .c (.sl (.int .u64) .d)), (13, .c (.sl .bool .d)), (15, .c (.sl (.int .i64) .d)), (16, .c (.int .i64)), (17, .c (.int .i64)), (18, .c (.int .u64)), (19, .c (.int .i64)), (20, .c (.int .i64))], [], [], 1, [], 0, [(.sl TInstr), (.sl (.int .i64)), (.sl (.int .i64)), (.sl (.int .u64)), (.sl .bool), (.sl (.int .i64)), (.int .i64), (.int .i64), (.int .u64), (.int .i64), (.int .i64)]⟩
def O0_13 : Outs := [(.ret, ⟨[(10, .c (.bool))], [], [], 1, [], 0, [.bool]⟩), (.exit 0, ⟨[], [], [], 1, [], 0, []⟩)]
def L0_13 (N : Nat) (k : Nat) (x : (List (Instr)) × (List (Int)) × (List (Int)) × (List (Int)) × (List (Bool)) × (List (Int)) × (Int) × (Int) × (Int) × (Int) × Int) : Option ((Bool) ⊕ (Unit)) := loopF (loopStep (E0 N) fuelW 0 13 (bodyAt t9 13) T0_13 O0_13) k x
theorem L0_13_succ (N : Nat) (k : Nat) (v10 : List (Instr)) (v11 : List (Int)) (v12 : List (Int)) (v13 : List (Int)) (v14 : List (Bool)) (v15 : List (Int)) (v16 : Int) (v17 : Int) (v18 : Int) (v19 : Int) (v20 : Int) : L0_13 N (k + 1) (v10, v11, v12, v13, v14, v15, v16, v17, v18, v19, v20) =
  (bif (decide (v20 ≤ (v12.length : Int)))
  then (Option.bind ((Option.bind (idx v13 v17) fun x21 =>
      (bif ((iandnot .u64 x21 v18) != (0 : Int))
      then some true
      else (Option.bind (idx v14 v17) fun x22 =>
        (bif (!x22)
        then some true
        else (bif (v16 == (0 : Int))
          then (Option.bind (idx v15 v17) fun x23 =>
            some (x23 != v19))
          else some false)))))) fun b24 =>
    (bif b24
    then some (Sum.inl false)
    else (Option.bind (F11 N (v10, v17)) fun y25 =>
      (bif (y25.2 != (0 : Int))
      then some (Sum.inl false)
      else (Option.bind ((bif ((y25.1.length : Int) == (0 : Int))
          then some true
          else (bif (v20 == (v12.length : Int))
            then some true
            else (Option.bind (idx v12 v20) fun x26 =>
              some (decide (x26 < (0 : Int))))))) fun b27 =>
        (bif b27
        then some (Sum.inr ())
        else (Option.bind (idx v10 v17) fun x28 =>
          (Option.bind (F35 N (x28.1, x28.2.1, x28.2.2.1, x28.2.2.2)) fun y29 =>
          (Option.bind (idx v11 v17) fun x30 =>
          (Option.bind (idx v12 v20) fun x31 =>
          (chk (!decide ((y25.1.length : Int) = 0))
          ((Option.bind (idx y25.1 (Int.tmod x31 (y25.1.length : Int))) fun x32 =>
          (Option.bind ((bif (decide (x32 < (0 : Int)))
            then some true
            else some (decide (x32 ≥ (v10.length : Int))))) fun b33 =>
          (bif b33
          then some (Sum.inl false)
          else L0_13 N k (v10, v11, v12, v13, v14, v15, v16, x32, (ior .u64 v18 y29), (wi64 (v19 + x30)), (wi64 (v20 + (1 : Int)))))))))))))))))))
  else some (Sum.inr ())) := by kernel_rfl
def E1 (N : Nat) : SEnv := (E0 N).addLoop N 0 13 T0_13 O0_13
theorem ok1 (N : Nat) : EnvOK tab (E1 N) := (ok0 N).addLoop N 0 13 T0_13 O0_13
end f9
def F9 (N : Nat) (x : (List (Instr)) × (Int) × (Int) × (List (Int)) × List (Int)) : Option (Bool) := fnRun (f9.E1 N) fuelW 9 f9.args f9.ta f9.res f9.tr 0 x
open f9 in
theorem F9_eq (N : Nat) (p0 : List (Instr)) (p1 : Int) (p2 : Int) (p3 : List (Int)) (p4 : List (Int)) : F9 N (p0, p1, p2, p3, p4) =
  (Option.bind ((Option.bind (F20 N p0) fun y0 =>
    (bif (!y0)
    then some true
    else (Option.bind (F21 N (p0, p1, p2)) fun y1 =>
      (bif (y1 != (0 : Int))
      then some true
      else (Option.bind (F32 N (p0, p3)) fun y2 =>
        (bif (!y2)
        then some true
        else some (decide ((p4.length : Int) > (200 : Int)))))))))) fun b3 =>
  (bif b3
  then (Option.bind (F22 N ()) fun y4 =>
    some y4)
  else (Option.bind (F23 N (p0, p1, p2)) fun y5 =>
    (Option.bind (F13 N p0) fun y6 =>
    (Option.bind (F29 N (p0, p3)) fun y7 =>
    (Option.bind ((bif (y5.2 != (0 : Int))
      then some true
      else (bif (y6.2 != (0 : Int))
        then some true
        else (bif (y7.2 != (0 : Int))
          then (bif (y7.2 != (36 : Int))
            then some true
            else (bif ((y5.1.length : Int) != (p0.length : Int))
              then some true
              else (bif ((y6.1.length : Int) != (p0.length : Int))
                then some true
                else (bif (y7.2 == (0 : Int))
                  then some ((y7.1.length : Int) != (p0.length : Int))
                  else some false))))
          else (bif ((y5.1.length : Int) != (p0.length : Int))
            then some true
            else (bif ((y6.1.length : Int) != (p0.length : Int))
              then some true
              else (bif (y7.2 == (0 : Int))
                then some ((y7.1.length : Int) != (p0.length : Int))
                else some false))))))) fun b8 =>
    (bif b8
    then some false
    else (Option.bind (F25 N p1) fun y9 =>
      (Option.bind (L0_13 N N (p0, p3, p4, y5.1, y6.1, y7.1, y7.2, (0 : Int), y9, (0 : Int), (0 : Int))) fun y34 =>
      (match y34 with
      | .inl a35 => some a35
      | .inr b36 => (Option.bind (F22 N ()) fun y37 =>
        some y37))))))))))) := by kernel_rfl
def c9 (N : Nat) : Sym.Callee := ⟨f9.args, f9.ta, f9.res, f9.tr, 0, F9 N⟩
theorem ok9 (N : Nat) : CalOK tab 9 (c9 N) := fn_ok (f9.ok1 N) fuelW 9 f9.args f9.ta f9.res f9.tr 0

end Go.Proofs.Ytedmahccogjemaa
