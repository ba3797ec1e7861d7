/- The tables of the functions. -/
import Derived.Test.YtkdjilgpknecfaaSymN
import Derived.Test.YtkdjilgpknecfaaRows
import Derived.ProofKit
namespace Go.Proofs.Ytkdjilgpknecfaa
open Go Go.Eng
/-- wreckage/routine.coded -/
def t25 : AFn := ⟨1, 9, [.t 2],
 (.seq
  (.region [⟨(some 2), .mov (.c (.d (.sc (.bool false)))), none, 0, 0⟩] false)
  (.seq
   (.region [⟨(some 3), .mov (.t 0), none, 0, 0⟩,
     ⟨(some 4), .bin .geq (.t 3) (.c (.d (.sc (.int .u64 256)))), none, 0, 0⟩,
     ⟨(some 5), .mov (.t 4), none, 0, 0⟩,
     ⟨(some 6), .mov (.t 0), (some (5, true)), 0, 0⟩,
     ⟨(some 7), .bin .lss (.t 6) (.c (.d (.sc (.int .u64 8448)))), (some (5, true)), 0, 0⟩,
     ⟨(some 8), .pick (.t 5) (.t 7) (.c (.d (.sc (.bool false)))), none, 0, 0⟩,
     ⟨(some 2), .mov (.t 8), none, 0, 0⟩] false)
   .ret)), false⟩
/-- wreckage/routine.base -/
def t26 : AFn := ⟨1, 7, [.t 2],
 (.seq
  (.region [⟨(some 2), .mov (.c (.d (.sc (.int .u64 0)))), none, 0, 0⟩] false)
  (.seq
   (.region [⟨(some 3), .mov (.t 0), none, 0, 0⟩,
     ⟨(some 4), .bin .add (.t 3) (.c (.d (.sc (.int .i64 1)))), none, 0, 0⟩,
     ⟨(some 5), .conv .u64 (.t 4), none, 0, 0⟩,
     ⟨(some 6), .bin .mul (.c (.d (.sc (.int .u64 16777216)))) (.t 5), none, 0, 0⟩,
     ⟨(some 2), .mov (.t 6), none, 0, 0⟩] false)
   .ret)), false⟩
/-- wreckage/routine.New -/
def t9 : AFn := ⟨3, 40, [.cell 6 6 true, .t 7],
 (.seq
  (.region [⟨(some 6), .alloc [(.d (.sc (.int .u8 0))), (.d (.sc (.int .u64 0))), (.d (.sc (.int .u64 0))), (.d (.sc (.int .u64 0))), (.d (.sc (.int .u64 0))), (.d (.sc (.int .i64 0)))], none, 0, 0⟩,
    ⟨(some 7), .mov (.c (.d (.sc (.int .i64 0)))), none, 0, 0⟩] false)
  (.seq
   (.seq
    (.region [⟨(some 8), .mov (.t 0), none, 0, 0⟩,
      ⟨(some 9), .bin .lss (.t 8) (.c (.d (.sc (.int .i64 0)))), none, 0, 0⟩,
      ⟨(some 10), .mov (.t 9), none, 0, 0⟩,
      ⟨(some 11), .mov (.t 0), (some (10, false)), 0, 0⟩,
      ⟨(some 12), .bin .geq (.t 11) (.c (.d (.sc (.int .i64 16)))), (some (10, false)), 0, 0⟩,
      ⟨(some 13), .pick (.t 10) (.c (.d (.sc (.bool true)))) (.t 12), none, 0, 0⟩,
      ⟨(some 14), .mov (.t 13), none, 0, 0⟩,
      ⟨(some 15), .mov (.t 1), (some (14, false)), 0, 0⟩,
      ⟨(some 16), .call 25 [(.t 15)], (some (14, false)), 0, 0⟩,
      ⟨(some 17), .un .not (.t 16), (some (14, false)), 0, 0⟩,
      ⟨(some 18), .pick (.t 14) (.c (.d (.sc (.bool true)))) (.t 17), none, 0, 0⟩,
      ⟨(some 19), .mov (.t 18), none, 0, 0⟩,
      ⟨(some 20), .mov (.t 2), (some (19, false)), 0, 0⟩,
      ⟨(some 21), .bin .rem (.t 20) (.c (.d (.sc (.int .i64 8)))), (some (19, false)), 0, 0⟩,
      ⟨(some 22), .bin .neq (.t 21) (.c (.d (.sc (.int .i64 0)))), (some (19, false)), 0, 0⟩,
      ⟨(some 23), .pick (.t 19) (.c (.d (.sc (.bool true)))) (.t 22), none, 0, 0⟩,
      ⟨(some 24), .mov (.t 23), none, 0, 0⟩,
      ⟨(some 25), .mov (.t 2), (some (24, false)), 0, 0⟩,
      ⟨(some 26), .bin .lss (.t 25) (.c (.d (.sc (.int .i64 24)))), (some (24, false)), 0, 0⟩,
      ⟨(some 27), .pick (.t 24) (.c (.d (.sc (.bool true)))) (.t 26), none, 0, 0⟩,
      ⟨(some 28), .mov (.t 27), none, 0, 0⟩,
      ⟨(some 29), .mov (.t 2), (some (28, false)), 0, 0⟩,
      ⟨(some 30), .bin .gtr (.t 29) (.c (.d (.sc (.int .i64 4096)))), (some (28, false)), 0, 0⟩,
      ⟨(some 31), .pick (.t 28) (.c (.d (.sc (.bool true)))) (.t 30), none, 0, 0⟩] false)
    (.cond (.t 31)
     (.seq
      (.region [⟨(some 32), .build [(.d (.sc (.int .u8 0))), (.d (.sc (.int .u64 0))), (.d (.sc (.int .u64 0))), (.d (.sc (.int .u64 0))), (.d (.sc (.int .u64 0))), (.d (.sc (.int .i64 0)))] [], none, 0, 0⟩,
        ⟨none, .store 6 (.t 6) (.t 32), none, 0, 0⟩,
        ⟨(some 7), .mov (.c (.d (.sc (.int .i64 2)))), none, 0, 0⟩] false)
      .ret)
     .skip))
   (.seq
    (.region [⟨(some 33), .mov (.t 1), none, 0, 0⟩,
      ⟨(some 34), .mov (.t 0), none, 0, 0⟩,
      ⟨(some 35), .call 26 [(.t 34)], none, 0, 0⟩,
      ⟨(some 36), .mov (.t 2), none, 0, 0⟩,
      ⟨(some 37), .conv .u64 (.t 36), none, 0, 0⟩,
      ⟨(some 38), .bin .add (.t 35) (.t 37), none, 0, 0⟩,
      ⟨(some 39), .build [(.d (.sc (.int .u8 0))), (.d (.sc (.int .u64 0))), (.d (.sc (.int .u64 0))), (.d (.sc (.int .u64 0))), (.d (.sc (.int .u64 0))), (.d (.sc (.int .i64 0)))] [(0, 1, (.c (.d (.sc (.int .u8 1))))), (1, 1, (.t 33)), (2, 1, (.t 38))], none, 0, 0⟩,
      ⟨none, .store 6 (.t 6) (.t 39), none, 0, 0⟩,
      ⟨(some 7), .mov (.c (.d (.sc (.int .i64 0)))), none, 0, 0⟩] false)
    .ret))), false⟩
/-- wreckage/wreckageref19.Code -/
def t27 : AFn := ⟨1, 11, [.t 2],
 (.seq
  (.region [⟨(some 2), .mov (.c (.d (.sc (.bool false)))), none, 0, 0⟩] false)
  (.seq
   (.region [⟨(some 3), .mov (.t 0), none, 0, 0⟩,
     ⟨(some 4), .bin .quo (.t 3) (.c (.d (.sc (.int .u64 256)))), none, 0, 0⟩,
     ⟨(some 5), .bin .geq (.t 4) (.c (.d (.sc (.int .u64 1)))), none, 0, 0⟩,
     ⟨(some 6), .mov (.t 5), none, 0, 0⟩,
     ⟨(some 7), .mov (.t 0), (some (6, true)), 0, 0⟩,
     ⟨(some 8), .bin .quo (.t 7) (.c (.d (.sc (.int .u64 256)))), (some (6, true)), 0, 0⟩,
     ⟨(some 9), .bin .leq (.t 8) (.c (.d (.sc (.int .u64 32)))), (some (6, true)), 0, 0⟩,
     ⟨(some 10), .pick (.t 6) (.t 9) (.c (.d (.sc (.bool false)))), none, 0, 0⟩,
     ⟨(some 2), .mov (.t 10), none, 0, 0⟩] false)
   .ret)), false⟩
/-- wreckage/wreckageref19.Base -/
def t28 : AFn := ⟨1, 7, [.t 2],
 (.seq
  (.region [⟨(some 2), .mov (.c (.d (.sc (.int .u64 0)))), none, 0, 0⟩] false)
  (.seq
   (.region [⟨(some 3), .mov (.t 0), none, 0, 0⟩,
     ⟨(some 4), .bin .add (.t 3) (.c (.d (.sc (.int .i64 1)))), none, 0, 0⟩,
     ⟨(some 5), .bin .mul (.c (.d (.sc (.int .i64 16777216)))) (.t 4), none, 0, 0⟩,
     ⟨(some 6), .conv .u64 (.t 5), none, 0, 0⟩,
     ⟨(some 2), .mov (.t 6), none, 0, 0⟩] false)
   .ret)), false⟩
/-- wreckage/wreckageref19.New -/
def t10 : AFn := ⟨3, 40, [.cell 6 6 true, .t 7],
 (.seq
  (.region [⟨(some 6), .alloc [(.d (.sc (.int .u8 0))), (.d (.sc (.int .u64 0))), (.d (.sc (.int .u64 0))), (.d (.sc (.int .u64 0))), (.d (.sc (.int .u64 0))), (.d (.sc (.int .i64 0)))], none, 0, 0⟩,
    ⟨(some 7), .mov (.c (.d (.sc (.int .i64 0)))), none, 0, 0⟩] false)
  (.seq
   (.seq
    (.region [⟨(some 8), .mov (.t 0), none, 0, 0⟩,
      ⟨(some 9), .bin .lss (.t 8) (.c (.d (.sc (.int .i64 0)))), none, 0, 0⟩,
      ⟨(some 10), .mov (.t 9), none, 0, 0⟩,
      ⟨(some 11), .mov (.t 0), (some (10, false)), 0, 0⟩,
      ⟨(some 12), .bin .geq (.t 11) (.c (.d (.sc (.int .i64 16)))), (some (10, false)), 0, 0⟩,
      ⟨(some 13), .pick (.t 10) (.c (.d (.sc (.bool true)))) (.t 12), none, 0, 0⟩,
      ⟨(some 14), .mov (.t 13), none, 0, 0⟩,
      ⟨(some 15), .mov (.t 1), (some (14, false)), 0, 0⟩,
      ⟨(some 16), .call 27 [(.t 15)], (some (14, false)), 0, 0⟩,
      ⟨(some 17), .un .not (.t 16), (some (14, false)), 0, 0⟩,
      ⟨(some 18), .pick (.t 14) (.c (.d (.sc (.bool true)))) (.t 17), none, 0, 0⟩,
      ⟨(some 19), .mov (.t 18), none, 0, 0⟩,
      ⟨(some 20), .mov (.t 2), (some (19, false)), 0, 0⟩,
      ⟨(some 21), .bin .lss (.t 20) (.c (.d (.sc (.int .i64 24)))), (some (19, false)), 0, 0⟩,
      ⟨(some 22), .pick (.t 19) (.c (.d (.sc (.bool true)))) (.t 21), none, 0, 0⟩,
      ⟨(some 23), .mov (.t 22), none, 0, 0⟩,
      ⟨(some 24), .mov (.t 2), (some (23, false)), 0, 0⟩,
      ⟨(some 25), .bin .gtr (.t 24) (.c (.d (.sc (.int .i64 4096)))), (some (23, false)), 0, 0⟩,
      ⟨(some 26), .pick (.t 23) (.c (.d (.sc (.bool true)))) (.t 25), none, 0, 0⟩,
      ⟨(some 27), .mov (.t 26), none, 0, 0⟩,
      ⟨(some 28), .mov (.t 2), (some (27, false)), 0, 0⟩,
      ⟨(some 29), .bin .rem (.t 28) (.c (.d (.sc (.int .i64 8)))), (some (27, false)), 0, 0⟩,
      ⟨(some 30), .bin .neq (.t 29) (.c (.d (.sc (.int .i64 0)))), (some (27, false)), 0, 0⟩,
      ⟨(some 31), .pick (.t 27) (.c (.d (.sc (.bool true)))) (.t 30), none, 0, 0⟩] false)
    (.cond (.t 31)
     (.seq
      (.region [⟨(some 32), .build [(.d (.sc (.int .u8 0))), (.d (.sc (.int .u64 0))), (.d (.sc (.int .u64 0))), (.d (.sc (.int .u64 0))), (.d (.sc (.int .u64 0))), (.d (.sc (.int .i64 0)))] [], none, 0, 0⟩,
        ⟨none, .store 6 (.t 6) (.t 32), none, 0, 0⟩,
        ⟨(some 7), .mov (.c (.d (.sc (.int .i64 2)))), none, 0, 0⟩] false)
      .ret)
     .skip))
   (.seq
    (.region [⟨(some 33), .mov (.t 1), none, 0, 0⟩,
      ⟨(some 34), .mov (.t 0), none, 0, 0⟩,
      ⟨(some 35), .call 28 [(.t 34)], none, 0, 0⟩,
      ⟨(some 36), .mov (.t 2), none, 0, 0⟩,
      ⟨(some 37), .conv .u64 (.t 36), none, 0, 0⟩,
      ⟨(some 38), .bin .add (.t 35) (.t 37), none, 0, 0⟩,
      ⟨(some 39), .build [(.d (.sc (.int .u8 0))), (.d (.sc (.int .u64 0))), (.d (.sc (.int .u64 0))), (.d (.sc (.int .u64 0))), (.d (.sc (.int .u64 0))), (.d (.sc (.int .i64 0)))] [(0, 1, (.c (.d (.sc (.int .u8 1))))), (1, 1, (.t 33)), (2, 1, (.t 38))], none, 0, 0⟩,
      ⟨none, .store 6 (.t 6) (.t 39), none, 0, 0⟩,
      ⟨(some 7), .mov (.c (.d (.sc (.int .i64 0)))), none, 0, 0⟩] false)
    .ret))), false⟩
/-- wreckage/routine.high -/
def t39 : AFn := ⟨1, 14, [.t 2],
 (.seq
  (.region [⟨(some 2), .mov (.c (.d (.sc (.bool false)))), none, 0, 0⟩] false)
  (.seq
   (.region [⟨(some 3), .mov (.t 0), none, 0, 0⟩,
     ⟨(some 4), .bin .eql (.t 3) (.c (.d (.sc (.int .u64 0)))), none, 0, 0⟩,
     ⟨(some 5), .mov (.t 4), none, 0, 0⟩,
     ⟨(some 6), .mov (.t 0), (some (5, false)), 0, 0⟩,
     ⟨(some 7), .bin .rem (.t 6) (.c (.d (.sc (.int .u64 8)))), (some (5, false)), 0, 0⟩,
     ⟨(some 8), .bin .eql (.t 7) (.c (.d (.sc (.int .u64 0)))), (some (5, false)), 0, 0⟩,
     ⟨(some 9), .mov (.t 8), (some (5, false)), 0, 0⟩,
     ⟨(some 10), .mov (.t 0), (some (9, true)), 0, 0⟩,
     ⟨(some 11), .bin .geq (.t 10) (.c (.d (.sc (.int .u64 65536)))), (some (9, true)), 0, 0⟩,
     ⟨(some 12), .pick (.t 9) (.t 11) (.c (.d (.sc (.bool false)))), (some (5, false)), 0, 0⟩,
     ⟨(some 13), .pick (.t 5) (.c (.d (.sc (.bool true)))) (.t 12), none, 0, 0⟩,
     ⟨(some 2), .mov (.t 13), none, 0, 0⟩] false)
   .ret)), false⟩
/-- wreckage/routine.valid -/
def t30 : AFn := ⟨2, 65, [.t 4],
 (.seq
  (.region [⟨(some 3), .box (.t 1), none, 0, 0⟩,
    ⟨(some 4), .mov (.c (.d (.sc (.bool false)))), none, 0, 0⟩] false)
  (.seq
   (.seq
    (.region [⟨(some 6), .fieldAddr 0 (.t 3), none, 0, 0⟩,
      ⟨(some 7), .load 1 false (.t 6), none, 0, 0⟩,
      ⟨(some 8), .bin .eql (.t 7) (.c (.d (.sc (.int .u8 3)))), none, 0, 0⟩] false)
    (.cond (.t 8)
     (.seq
      (.region [⟨(some 9), .load 6 true (.t 3), none, 0, 0⟩,
        ⟨(some 10), .mov (.t 0), none, 0, 0⟩,
        ⟨(some 11), .call 26 [(.t 10)], none, 2, 0⟩,
        ⟨(some 12), .build [(.d (.sc (.int .u8 0))), (.d (.sc (.int .u64 0))), (.d (.sc (.int .u64 0))), (.d (.sc (.int .u64 0))), (.d (.sc (.int .u64 0))), (.d (.sc (.int .i64 0)))] [(0, 1, (.c (.d (.sc (.int .u8 3))))), (2, 1, (.t 11))], none, 6, 0⟩,
        ⟨(some 13), .eqA false 6 [(0, 1), (1, 1), (2, 1), (3, 1), (4, 1), (5, 1)] (.t 9) (.t 12), none, 15, 0⟩,
        ⟨(some 4), .mov (.t 13), none, 31, 0⟩] true)
      .ret)
     .skip))
   (.seq
    (.region [⟨(some 14), .fieldAddr 2 (.t 3), none, 0, 0⟩,
      ⟨(some 15), .load 1 false (.t 14), none, 1, 0⟩,
      ⟨(some 16), .mov (.t 0), none, 0, 0⟩,
      ⟨(some 17), .call 26 [(.t 16)], none, 4, 0⟩,
      ⟨(some 18), .bin .sub (.t 15) (.t 17), none, 15, 0⟩,
      ⟨(some 5), .mov (.t 18), none, 31, 0⟩] true)
    (.seq
     (.seq
      (.region [⟨(some 19), .fieldAddr 2 (.t 3), none, 0, 0⟩,
        ⟨(some 20), .load 1 false (.t 19), none, 1, 0⟩,
        ⟨(some 21), .mov (.t 0), none, 0, 0⟩,
        ⟨(some 22), .call 26 [(.t 21)], none, 4, 0⟩,
        ⟨(some 23), .bin .lss (.t 20) (.t 22), none, 15, 0⟩,
        ⟨(some 24), .mov (.t 23), none, 31, 0⟩,
        ⟨(some 25), .mov (.t 5), (some (24, false)), 63, 0⟩,
        ⟨(some 26), .bin .lss (.t 25) (.c (.d (.sc (.int .u64 24)))), (some (24, false)), 127, 0⟩,
        ⟨(some 27), .pick (.t 24) (.c (.d (.sc (.bool true)))) (.t 26), none, 255, 0⟩,
        ⟨(some 28), .mov (.t 27), none, 511, 0⟩,
        ⟨(some 29), .mov (.t 5), (some (28, false)), 1023, 0⟩,
        ⟨(some 30), .bin .gtr (.t 29) (.c (.d (.sc (.int .u64 4096)))), (some (28, false)), 2047, 0⟩,
        ⟨(some 31), .pick (.t 28) (.c (.d (.sc (.bool true)))) (.t 30), none, 4095, 0⟩,
        ⟨(some 32), .mov (.t 31), none, 8191, 0⟩,
        ⟨(some 33), .mov (.t 5), (some (32, false)), 16383, 0⟩,
        ⟨(some 34), .bin .rem (.t 33) (.c (.d (.sc (.int .u64 8)))), (some (32, false)), 32767, 0⟩,
        ⟨(some 35), .bin .neq (.t 34) (.c (.d (.sc (.int .u64 0)))), (some (32, false)), 65535, 0⟩,
        ⟨(some 36), .pick (.t 32) (.c (.d (.sc (.bool true)))) (.t 35), none, 131071, 0⟩] true)
      (.cond (.t 36)
       (.seq
        (.region [⟨(some 4), .mov (.c (.d (.sc (.bool false)))), none, 0, 0⟩] false)
        .ret)
       .skip))
     (.seq
      (.region [⟨(some 37), .fieldAddr 0 (.t 3), none, 0, 0⟩,
        ⟨(some 38), .load 1 false (.t 37), none, 0, 0⟩,
        ⟨(some 39), .bin .eql (.t 38) (.c (.d (.sc (.int .u8 2)))), none, 0, 0⟩,
        ⟨(some 40), .mov (.t 39), none, 0, 0⟩,
        ⟨(some 41), .fieldAddr 0 (.t 3), (some (40, false)), 0, 0⟩,
        ⟨(some 42), .load 1 false (.t 41), (some (40, false)), 0, 0⟩,
        ⟨(some 43), .bin .eql (.t 42) (.c (.d (.sc (.int .u8 1)))), (some (40, false)), 0, 0⟩,
        ⟨(some 44), .mov (.t 43), (some (40, false)), 0, 0⟩,
        ⟨(some 45), .fieldAddr 5 (.t 3), (some (44, true)), 0, 0⟩,
        ⟨(some 46), .load 1 false (.t 45), (some (44, true)), 0, 0⟩,
        ⟨(some 47), .bin .eql (.t 46) (.c (.d (.sc (.int .i64 0)))), (some (44, true)), 0, 0⟩,
        ⟨(some 48), .pick (.t 44) (.t 47) (.c (.d (.sc (.bool false)))), (some (40, false)), 0, 0⟩,
        ⟨(some 49), .pick (.t 40) (.c (.d (.sc (.bool true)))) (.t 48), none, 0, 0⟩,
        ⟨(some 50), .mov (.t 49), none, 0, 0⟩,
        ⟨(some 51), .fieldAddr 1 (.t 3), (some (50, true)), 0, 0⟩,
        ⟨(some 52), .load 1 false (.t 51), (some (50, true)), 0, 0⟩,
        ⟨(some 53), .call 25 [(.t 52)], (some (50, true)), 0, 0⟩,
        ⟨(some 54), .pick (.t 50) (.t 53) (.c (.d (.sc (.bool false)))), none, 0, 0⟩,
        ⟨(some 55), .mov (.t 54), none, 0, 0⟩,
        ⟨(some 56), .fieldAddr 3 (.t 3), (some (55, true)), 0, 0⟩,
        ⟨(some 57), .load 1 false (.t 56), (some (55, true)), 0, 0⟩,
        ⟨(some 58), .call 39 [(.t 57)], (some (55, true)), 0, 0⟩,
        ⟨(some 59), .pick (.t 55) (.t 58) (.c (.d (.sc (.bool false)))), none, 0, 0⟩,
        ⟨(some 60), .mov (.t 59), none, 0, 0⟩,
        ⟨(some 61), .fieldAddr 4 (.t 3), (some (60, true)), 0, 0⟩,
        ⟨(some 62), .load 1 false (.t 61), (some (60, true)), 0, 0⟩,
        ⟨(some 63), .call 39 [(.t 62)], (some (60, true)), 0, 0⟩,
        ⟨(some 64), .pick (.t 60) (.t 63) (.c (.d (.sc (.bool false)))), none, 0, 0⟩,
        ⟨(some 4), .mov (.t 64), none, 0, 0⟩] false)
      .ret))))), false⟩
/-- wreckage/routine.Check -/
def t13 : AFn := ⟨1, 25, [.t 2],
 (.seq
  (.region [⟨(some 2), .mov (.c (.d (.sc (.int .i64 0)))), none, 0, 0⟩] false)
  (.seq
   (.seq
    (.region [⟨(some 5), .mov (.t 0), none, 0, 0⟩,
      ⟨(some 6), .len (.t 5), none, 0, 0⟩,
      ⟨(some 7), .bin .lss (.t 6) (.c (.d (.sc (.int .i64 1)))), none, 0, 0⟩,
      ⟨(some 8), .mov (.t 7), none, 0, 0⟩,
      ⟨(some 9), .mov (.t 0), (some (8, false)), 0, 0⟩,
      ⟨(some 10), .len (.t 9), (some (8, false)), 0, 0⟩,
      ⟨(some 11), .bin .gtr (.t 10) (.c (.d (.sc (.int .i64 16)))), (some (8, false)), 0, 0⟩,
      ⟨(some 12), .pick (.t 8) (.c (.d (.sc (.bool true)))) (.t 11), none, 0, 0⟩] false)
    (.cond (.t 12)
     (.seq
      (.region [⟨(some 2), .mov (.c (.d (.sc (.int .i64 8)))), none, 0, 0⟩] false)
      .ret)
     .skip))
   (.seq
    (.seq
     (.region [⟨(some 13), .mov (.t 0), none, 0, 0⟩,
       ⟨(some 14), .len (.t 13), none, 0, 0⟩,
       ⟨(some 15), .mov (.c (.d (.sc (.int .i64 0)))), none, 0, 0⟩] false)
     (.block 0
      (.loop
       (.seq
        (.region [⟨(some 16), .bin .lss (.t 15) (.t 14), none, 0, 0⟩] false)
        (.seq
         (.cond (.t 16)
          .skip
          (.exit 0))
         (.seq
          (.block 1
           (.seq
            (.region [⟨(some 17), .mov (.t 15), none, 0, 0⟩,
              ⟨(some 18), .indexAddr 6 (.t 13) (.t 15), none, 0, 0⟩,
              ⟨(some 19), .load 6 true (.t 18), none, 0, 0⟩,
              ⟨(some 4), .alloc [(.d (.sc (.int .u8 0))), (.d (.sc (.int .u64 0))), (.d (.sc (.int .u64 0))), (.d (.sc (.int .u64 0))), (.d (.sc (.int .u64 0))), (.d (.sc (.int .i64 0)))], none, 0, 0⟩,
              ⟨(some 3), .mov (.t 17), none, 0, 0⟩,
              ⟨none, .store 6 (.t 4) (.t 19), none, 0, 0⟩] false)
            (.seq
             (.region [⟨(some 20), .mov (.t 3), none, 0, 0⟩,
               ⟨(some 21), .load 6 true (.t 4), none, 0, 0⟩,
               ⟨(some 22), .call 30 [(.t 20), (.t 21)], none, 0, 0⟩,
               ⟨(some 23), .un .not (.t 22), none, 0, 0⟩] false)
             (.cond (.t 23)
              (.seq
               (.region [⟨(some 2), .mov (.c (.d (.sc (.int .i64 8)))), none, 0, 0⟩] false)
               .ret)
              .skip))))
          (.region [⟨(some 24), .bin .add (.t 15) (.c (.d (.sc (.int .i64 1)))), none, 0, 0⟩,
            ⟨(some 15), .mov (.t 24), none, 0, 0⟩] false)))))))
    (.seq
     (.region [⟨(some 2), .mov (.c (.d (.sc (.int .i64 0)))), none, 0, 0⟩] false)
     .ret)))), false⟩
/-- wreckage/routine.Ready -/
def t11 : AFn := ⟨1, 29, [.t 2, .t 3],
 (.seq
  (.region [⟨(some 2), .mov (.c (.own [] .full)), none, 0, 0⟩,
    ⟨(some 3), .mov (.c (.d (.sc (.int .i64 0)))), none, 0, 0⟩] false)
  (.seq
   (.seq
    (.region [⟨(some 8), .mov (.t 0), none, 0, 0⟩,
      ⟨(some 9), .call 13 [(.t 8)], none, 0, 0⟩,
      ⟨(some 4), .mov (.t 9), none, 0, 0⟩] false)
    (.seq
     (.region [⟨(some 10), .mov (.t 4), none, 0, 0⟩,
       ⟨(some 11), .bin .neq (.t 10) (.c (.d (.sc (.int .i64 0)))), none, 0, 0⟩] false)
     (.cond (.t 11)
      (.seq
       (.region [⟨(some 12), .mov (.t 4), none, 0, 0⟩,
         ⟨(some 2), .mov (.c (.own [] .full)), none, 0, 0⟩,
         ⟨(some 3), .mov (.t 12), none, 0, 0⟩] false)
       .ret)
      .skip)))
   (.seq
    (.region [⟨(some 5), .mov (.c (.own [] .full)), none, 0, 0⟩] false)
    (.seq
     (.seq
      (.region [⟨(some 13), .mov (.t 0), none, 0, 0⟩,
        ⟨(some 14), .len (.t 13), none, 0, 0⟩,
        ⟨(some 15), .mov (.c (.d (.sc (.int .i64 0)))), none, 0, 0⟩] false)
      (.block 0
       (.loop
        (.seq
         (.region [⟨(some 16), .bin .lss (.t 15) (.t 14), none, 0, 0⟩] false)
         (.seq
          (.cond (.t 16)
           .skip
           (.exit 0))
          (.seq
           (.block 1
            (.seq
             (.region [⟨(some 17), .mov (.t 15), none, 0, 0⟩,
               ⟨(some 18), .indexAddr 6 (.t 13) (.t 15), none, 0, 0⟩,
               ⟨(some 19), .load 6 true (.t 18), none, 0, 0⟩,
               ⟨(some 7), .alloc [(.d (.sc (.int .u8 0))), (.d (.sc (.int .u64 0))), (.d (.sc (.int .u64 0))), (.d (.sc (.int .u64 0))), (.d (.sc (.int .u64 0))), (.d (.sc (.int .i64 0)))], none, 0, 0⟩,
               ⟨(some 6), .mov (.t 17), none, 0, 0⟩,
               ⟨none, .store 6 (.t 7) (.t 19), none, 0, 0⟩] false)
             (.seq
              (.region [⟨(some 20), .fieldAddr 0 (.t 7), none, 0, 0⟩,
                ⟨(some 21), .load 1 false (.t 20), none, 0, 0⟩,
                ⟨(some 22), .bin .eql (.t 21) (.c (.d (.sc (.int .u8 1)))), none, 0, 0⟩] false)
              (.cond (.t 22)
               (.region [⟨(some 23), .mov (.t 5), none, 0, 0⟩,
                 ⟨(some 24), .mov (.t 6), none, 0, 0⟩,
                 ⟨(some 25), .buildSlice 1 1 [(.sc (.int .i64 0))] [(0, (.t 24))], none, 0, 0⟩,
                 ⟨(some 26), .append 1 8 (.t 23) (.t 25), none, 0, 0⟩,
                 ⟨(some 5), .mov (.t 26), none, 0, 0⟩] false)
               .skip))))
           (.region [⟨(some 27), .bin .add (.t 15) (.c (.d (.sc (.int .i64 1)))), none, 0, 0⟩,
             ⟨(some 15), .mov (.t 27), none, 0, 0⟩] false)))))))
     (.seq
      (.region [⟨(some 28), .mov (.t 5), none, 0, 0⟩,
        ⟨(some 2), .mov (.t 28), none, 0, 0⟩,
        ⟨(some 3), .mov (.c (.d (.sc (.int .i64 0)))), none, 0, 0⟩] false)
      .ret))))), false⟩
/-- wreckage/wreckageref19.record -/
def t40 : AFn := ⟨1, 14, [.t 2],
 (.seq
  (.region [⟨(some 2), .mov (.c (.d (.sc (.bool false)))), none, 0, 0⟩] false)
  (.seq
   (.region [⟨(some 3), .mov (.t 0), none, 0, 0⟩,
     ⟨(some 4), .bin .eql (.t 3) (.c (.d (.sc (.int .u64 0)))), none, 0, 0⟩,
     ⟨(some 5), .mov (.t 4), none, 0, 0⟩,
     ⟨(some 6), .mov (.t 0), (some (5, false)), 0, 0⟩,
     ⟨(some 7), .bin .geq (.t 6) (.c (.d (.sc (.int .u64 65536)))), (some (5, false)), 0, 0⟩,
     ⟨(some 8), .mov (.t 7), (some (5, false)), 0, 0⟩,
     ⟨(some 9), .mov (.t 0), (some (8, true)), 0, 0⟩,
     ⟨(some 10), .bin .rem (.t 9) (.c (.d (.sc (.int .u64 8)))), (some (8, true)), 0, 0⟩,
     ⟨(some 11), .bin .eql (.t 10) (.c (.d (.sc (.int .u64 0)))), (some (8, true)), 0, 0⟩,
     ⟨(some 12), .pick (.t 8) (.t 11) (.c (.d (.sc (.bool false)))), (some (5, false)), 0, 0⟩,
     ⟨(some 13), .pick (.t 5) (.c (.d (.sc (.bool true)))) (.t 12), none, 0, 0⟩,
     ⟨(some 2), .mov (.t 13), none, 0, 0⟩] false)
   .ret)), false⟩
/-- wreckage/wreckageref19.Valid -/
def t31 : AFn := ⟨2, 76, [.t 4],
 (.seq
  (.region [⟨(some 3), .box (.t 1), none, 0, 0⟩,
    ⟨(some 4), .mov (.c (.d (.sc (.bool false)))), none, 0, 0⟩] false)
  (.seq
   (.seq
    (.region [⟨(some 5), .fieldAddr 0 (.t 3), none, 0, 0⟩,
      ⟨(some 6), .load 1 false (.t 5), none, 0, 0⟩] false)
    (.block 0
     (.seq
      (.region [⟨(some 8), .bin .eql (.t 6) (.c (.d (.sc (.int .u8 1)))), none, 0, 0⟩,
        ⟨(some 7), .mov (.t 8), none, 0, 0⟩] false)
      (.cond (.t 7)
       (.seq
        (.region [⟨(some 9), .fieldAddr 5 (.t 3), none, 0, 0⟩,
          ⟨(some 10), .load 1 false (.t 9), none, 0, 0⟩,
          ⟨(some 11), .bin .neq (.t 10) (.c (.d (.sc (.int .i64 0)))), none, 0, 0⟩] false)
        (.cond (.t 11)
         (.seq
          (.region [⟨(some 4), .mov (.c (.d (.sc (.bool false)))), none, 0, 0⟩] false)
          .ret)
         .skip))
       (.seq
        (.region [⟨(some 13), .bin .eql (.t 6) (.c (.d (.sc (.int .u8 2)))), none, 0, 0⟩,
          ⟨(some 12), .mov (.t 13), none, 0, 0⟩] false)
        (.cond (.t 12)
         .skip
         (.seq
          (.region [⟨(some 15), .bin .eql (.t 6) (.c (.d (.sc (.int .u8 3)))), none, 0, 0⟩,
            ⟨(some 14), .mov (.t 15), none, 0, 0⟩] false)
          (.cond (.t 14)
           (.seq
            (.region [⟨(some 16), .fieldAddr 1 (.t 3), none, 0, 0⟩,
              ⟨(some 17), .load 1 false (.t 16), none, 1, 0⟩,
              ⟨(some 18), .bin .eql (.t 17) (.c (.d (.sc (.int .u64 0)))), none, 3, 0⟩,
              ⟨(some 19), .mov (.t 18), none, 7, 0⟩,
              ⟨(some 20), .fieldAddr 2 (.t 3), (some (19, true)), 15, 0⟩,
              ⟨(some 21), .load 1 false (.t 20), (some (19, true)), 31, 0⟩,
              ⟨(some 22), .mov (.t 0), (some (19, true)), 15, 0⟩,
              ⟨(some 23), .call 28 [(.t 22)], (some (19, true)), 79, 0⟩,
              ⟨(some 24), .bin .eql (.t 21) (.t 23), (some (19, true)), 255, 0⟩,
              ⟨(some 25), .pick (.t 19) (.t 24) (.c (.d (.sc (.bool false)))), none, 511, 0⟩,
              ⟨(some 26), .mov (.t 25), none, 1023, 0⟩,
              ⟨(some 27), .fieldAddr 3 (.t 3), (some (26, true)), 2047, 0⟩,
              ⟨(some 28), .load 1 false (.t 27), (some (26, true)), 4095, 0⟩,
              ⟨(some 29), .bin .eql (.t 28) (.c (.d (.sc (.int .u64 0)))), (some (26, true)), 8191, 0⟩,
              ⟨(some 30), .pick (.t 26) (.t 29) (.c (.d (.sc (.bool false)))), none, 16383, 0⟩,
              ⟨(some 31), .mov (.t 30), none, 32767, 0⟩,
              ⟨(some 32), .fieldAddr 4 (.t 3), (some (31, true)), 65535, 0⟩,
              ⟨(some 33), .load 1 false (.t 32), (some (31, true)), 131071, 0⟩,
              ⟨(some 34), .bin .eql (.t 33) (.c (.d (.sc (.int .u64 0)))), (some (31, true)), 262143, 0⟩,
              ⟨(some 35), .pick (.t 31) (.t 34) (.c (.d (.sc (.bool false)))), none, 524287, 0⟩,
              ⟨(some 36), .mov (.t 35), none, 1048575, 0⟩,
              ⟨(some 37), .fieldAddr 5 (.t 3), (some (36, true)), 2097151, 0⟩,
              ⟨(some 38), .load 1 false (.t 37), (some (36, true)), 4194303, 0⟩,
              ⟨(some 39), .bin .eql (.t 38) (.c (.d (.sc (.int .i64 0)))), (some (36, true)), 8388607, 0⟩,
              ⟨(some 40), .pick (.t 36) (.t 39) (.c (.d (.sc (.bool false)))), none, 16777215, 0⟩,
              ⟨(some 4), .mov (.t 40), none, 33554431, 0⟩] true)
            .ret)
           (.seq
            (.region [⟨(some 4), .mov (.c (.d (.sc (.bool false)))), none, 0, 0⟩] false)
            .ret)))))))))
   (.seq
    (.region [⟨(some 41), .fieldAddr 1 (.t 3), none, 0, 0⟩,
      ⟨(some 42), .load 1 false (.t 41), none, 1, 0⟩,
      ⟨(some 43), .call 27 [(.t 42)], none, 3, 0⟩,
      ⟨(some 44), .mov (.t 43), none, 7, 0⟩,
      ⟨(some 45), .fieldAddr 2 (.t 3), (some (44, true)), 15, 0⟩,
      ⟨(some 46), .load 1 false (.t 45), (some (44, true)), 31, 0⟩,
      ⟨(some 47), .mov (.t 0), (some (44, true)), 15, 0⟩,
      ⟨(some 48), .call 28 [(.t 47)], (some (44, true)), 79, 0⟩,
      ⟨(some 49), .bin .add (.t 48) (.c (.d (.sc (.int .u64 24)))), (some (44, true)), 207, 0⟩,
      ⟨(some 50), .bin .geq (.t 46) (.t 49), (some (44, true)), 511, 0⟩,
      ⟨(some 51), .pick (.t 44) (.t 50) (.c (.d (.sc (.bool false)))), none, 1023, 0⟩,
      ⟨(some 52), .mov (.t 51), none, 2047, 0⟩,
      ⟨(some 53), .fieldAddr 2 (.t 3), (some (52, true)), 4095, 0⟩,
      ⟨(some 54), .load 1 false (.t 53), (some (52, true)), 8191, 0⟩,
      ⟨(some 55), .mov (.t 0), (some (52, true)), 4095, 0⟩,
      ⟨(some 56), .call 28 [(.t 55)], (some (52, true)), 20479, 0⟩,
      ⟨(some 57), .bin .add (.t 56) (.c (.d (.sc (.int .u64 4096)))), (some (52, true)), 53247, 0⟩,
      ⟨(some 58), .bin .leq (.t 54) (.t 57), (some (52, true)), 131071, 0⟩,
      ⟨(some 59), .pick (.t 52) (.t 58) (.c (.d (.sc (.bool false)))), none, 262143, 0⟩,
      ⟨(some 60), .mov (.t 59), none, 524287, 0⟩,
      ⟨(some 61), .fieldAddr 2 (.t 3), (some (60, true)), 1048575, 0⟩,
      ⟨(some 62), .load 1 false (.t 61), (some (60, true)), 2097151, 0⟩,
      ⟨(some 63), .bin .rem (.t 62) (.c (.d (.sc (.int .u64 8)))), (some (60, true)), 4194303, 0⟩,
      ⟨(some 64), .bin .eql (.t 63) (.c (.d (.sc (.int .u64 0)))), (some (60, true)), 8388607, 0⟩,
      ⟨(some 65), .pick (.t 60) (.t 64) (.c (.d (.sc (.bool false)))), none, 16777215, 0⟩,
      ⟨(some 66), .mov (.t 65), none, 33554431, 0⟩,
      ⟨(some 67), .fieldAddr 3 (.t 3), (some (66, true)), 67108863, 0⟩,
      ⟨(some 68), .load 1 false (.t 67), (some (66, true)), 134217727, 0⟩,
      ⟨(some 69), .call 40 [(.t 68)], (some (66, true)), 268435455, 0⟩,
      ⟨(some 70), .pick (.t 66) (.t 69) (.c (.d (.sc (.bool false)))), none, 536870911, 0⟩,
      ⟨(some 71), .mov (.t 70), none, 1073741823, 0⟩,
      ⟨(some 72), .fieldAddr 4 (.t 3), (some (71, true)), 2147483647, 0⟩,
      ⟨(some 73), .load 1 false (.t 72), (some (71, true)), 4294967295, 0⟩,
      ⟨(some 74), .call 40 [(.t 73)], (some (71, true)), 8589934591, 0⟩,
      ⟨(some 75), .pick (.t 71) (.t 74) (.c (.d (.sc (.bool false)))), none, 17179869183, 0⟩,
      ⟨(some 4), .mov (.t 75), none, 34359738367, 0⟩] true)
    .ret))), false⟩
/-- wreckage/wreckageref19.Check -/
def t14 : AFn := ⟨1, 25, [.t 2],
 (.seq
  (.region [⟨(some 2), .mov (.c (.d (.sc (.int .i64 0)))), none, 0, 0⟩] false)
  (.seq
   (.seq
    (.region [⟨(some 4), .mov (.t 0), none, 0, 0⟩,
      ⟨(some 5), .len (.t 4), none, 0, 0⟩,
      ⟨(some 6), .bin .eql (.t 5) (.c (.d (.sc (.int .i64 0)))), none, 0, 0⟩,
      ⟨(some 7), .mov (.t 6), none, 0, 0⟩,
      ⟨(some 8), .mov (.t 0), (some (7, false)), 0, 0⟩,
      ⟨(some 9), .len (.t 8), (some (7, false)), 0, 0⟩,
      ⟨(some 10), .bin .gtr (.t 9) (.c (.d (.sc (.int .i64 16)))), (some (7, false)), 0, 0⟩,
      ⟨(some 11), .pick (.t 7) (.c (.d (.sc (.bool true)))) (.t 10), none, 0, 0⟩] false)
    (.cond (.t 11)
     (.seq
      (.region [⟨(some 2), .mov (.c (.d (.sc (.int .i64 8)))), none, 0, 0⟩] false)
      .ret)
     .skip))
   (.seq
    (.seq
     (.region [⟨(some 3), .mov (.c (.d (.sc (.int .i64 0)))), none, 0, 0⟩] false)
     (.block 0
      (.loop
       (.seq
        (.seq
         (.region [⟨(some 12), .mov (.t 3), none, 0, 0⟩,
           ⟨(some 13), .mov (.t 0), none, 0, 0⟩,
           ⟨(some 14), .len (.t 13), none, 0, 0⟩,
           ⟨(some 15), .bin .lss (.t 12) (.t 14), none, 0, 0⟩] false)
         (.cond (.t 15)
          .skip
          (.exit 0)))
        (.seq
         (.block 1
          (.seq
           (.region [⟨(some 18), .mov (.t 3), none, 0, 0⟩,
             ⟨(some 19), .mov (.t 0), none, 0, 0⟩,
             ⟨(some 20), .mov (.t 3), none, 0, 0⟩,
             ⟨(some 21), .indexAddr 6 (.t 19) (.t 20), none, 0, 0⟩,
             ⟨(some 22), .load 6 true (.t 21), none, 0, 0⟩,
             ⟨(some 23), .call 31 [(.t 18), (.t 22)], none, 0, 0⟩,
             ⟨(some 24), .un .not (.t 23), none, 0, 0⟩] false)
           (.cond (.t 24)
            (.seq
             (.region [⟨(some 2), .mov (.c (.d (.sc (.int .i64 8)))), none, 0, 0⟩] false)
             .ret)
            .skip)))
         (.region [⟨(some 16), .mov (.t 3), none, 0, 0⟩,
           ⟨(some 17), .bin .add (.t 16) (.c (.d (.sc (.int .i64 1)))), none, 0, 0⟩,
           ⟨(some 3), .mov (.t 17), none, 0, 0⟩] false))))))
    (.seq
     (.region [⟨(some 2), .mov (.c (.d (.sc (.int .i64 0)))), none, 0, 0⟩] false)
     .ret)))), false⟩
/-- wreckage/wreckageref19.Waiting -/
def t29 : AFn := ⟨1, 22, [.t 2],
 (.seq
  (.region [⟨(some 2), .mov (.c (.own [] .full)), none, 0, 0⟩] false)
  (.seq
   (.region [⟨(some 3), .mov (.c (.own [] .full)), none, 0, 0⟩] false)
   (.seq
    (.seq
     (.region [⟨(some 4), .mov (.c (.d (.sc (.int .i64 0)))), none, 0, 0⟩] false)
     (.block 0
      (.loop
       (.seq
        (.seq
         (.region [⟨(some 5), .mov (.t 4), none, 0, 0⟩,
           ⟨(some 6), .mov (.t 0), none, 0, 0⟩,
           ⟨(some 7), .len (.t 6), none, 0, 0⟩,
           ⟨(some 8), .bin .lss (.t 5) (.t 7), none, 0, 0⟩] false)
         (.cond (.t 8)
          .skip
          (.exit 0)))
        (.seq
         (.block 1
          (.seq
           (.region [⟨(some 11), .mov (.t 0), none, 0, 0⟩,
             ⟨(some 12), .mov (.t 4), none, 0, 0⟩,
             ⟨(some 13), .indexAddr 6 (.t 11) (.t 12), none, 0, 0⟩,
             ⟨(some 14), .fieldAddr 0 (.t 13), none, 0, 0⟩,
             ⟨(some 15), .load 1 false (.t 14), none, 0, 0⟩,
             ⟨(some 16), .bin .eql (.t 15) (.c (.d (.sc (.int .u8 1)))), none, 0, 0⟩] false)
           (.cond (.t 16)
            (.region [⟨(some 17), .mov (.t 3), none, 0, 0⟩,
              ⟨(some 18), .mov (.t 4), none, 0, 0⟩,
              ⟨(some 19), .buildSlice 1 1 [(.sc (.int .i64 0))] [(0, (.t 18))], none, 0, 0⟩,
              ⟨(some 20), .append 1 8 (.t 17) (.t 19), none, 0, 0⟩,
              ⟨(some 3), .mov (.t 20), none, 0, 0⟩] false)
            .skip)))
         (.region [⟨(some 9), .mov (.t 4), none, 0, 0⟩,
           ⟨(some 10), .bin .add (.t 9) (.c (.d (.sc (.int .i64 1)))), none, 0, 0⟩,
           ⟨(some 4), .mov (.t 10), none, 0, 0⟩] false))))))
    (.seq
     (.region [⟨(some 21), .mov (.t 3), none, 0, 0⟩,
       ⟨(some 2), .mov (.t 21), none, 0, 0⟩] false)
     .ret)))), false⟩
/-- wreckage/wreckageref19.Ready -/
def t12 : AFn := ⟨1, 11, [.t 2, .t 3],
 (.seq
  (.region [⟨(some 2), .mov (.c (.own [] .full)), none, 0, 0⟩,
    ⟨(some 3), .mov (.c (.d (.sc (.int .i64 0)))), none, 0, 0⟩] false)
  (.seq
   (.seq
    (.region [⟨(some 4), .mov (.t 0), none, 0, 0⟩,
      ⟨(some 5), .call 14 [(.t 4)], none, 0, 0⟩,
      ⟨(some 6), .bin .neq (.t 5) (.c (.d (.sc (.int .i64 0)))), none, 0, 0⟩] false)
    (.cond (.t 6)
     (.seq
      (.region [⟨(some 7), .mov (.t 0), none, 0, 0⟩,
        ⟨(some 8), .call 14 [(.t 7)], none, 0, 0⟩,
        ⟨(some 2), .mov (.c (.own [] .full)), none, 0, 0⟩,
        ⟨(some 3), .mov (.t 8), none, 0, 0⟩] false)
      .ret)
     .skip))
   (.seq
    (.region [⟨(some 9), .mov (.t 0), none, 0, 0⟩,
      ⟨(some 10), .call 29 [(.t 9)], none, 0, 0⟩,
      ⟨(some 2), .mov (.t 10), none, 0, 0⟩,
      ⟨(some 3), .mov (.c (.d (.sc (.int .i64 0)))), none, 0, 0⟩] false)
    .ret))), false⟩
/-- wreckage/wreckageref19.SameNumbers -/
def t15 : AFn := ⟨2, 26, [.t 4],
 (.seq
  (.region [⟨(some 4), .mov (.c (.d (.sc (.bool false)))), none, 0, 0⟩] false)
  (.seq
   (.seq
    (.region [⟨(some 6), .mov (.t 0), none, 0, 0⟩,
      ⟨(some 7), .len (.t 6), none, 0, 0⟩,
      ⟨(some 8), .mov (.t 1), none, 0, 0⟩,
      ⟨(some 9), .len (.t 8), none, 0, 0⟩,
      ⟨(some 10), .bin .neq (.t 7) (.t 9), none, 0, 0⟩] false)
    (.cond (.t 10)
     (.seq
      (.region [⟨(some 4), .mov (.c (.d (.sc (.bool false)))), none, 0, 0⟩] false)
      .ret)
     .skip))
   (.seq
    (.seq
     (.region [⟨(some 5), .mov (.c (.d (.sc (.int .i64 0)))), none, 0, 0⟩] false)
     (.block 0
      (.loop
       (.seq
        (.seq
         (.region [⟨(some 11), .mov (.t 5), none, 0, 0⟩,
           ⟨(some 12), .mov (.t 0), none, 0, 0⟩,
           ⟨(some 13), .len (.t 12), none, 0, 0⟩,
           ⟨(some 14), .bin .lss (.t 11) (.t 13), none, 0, 0⟩] false)
         (.cond (.t 14)
          .skip
          (.exit 0)))
        (.seq
         (.block 1
          (.seq
           (.region [⟨(some 17), .mov (.t 0), none, 0, 0⟩,
             ⟨(some 18), .mov (.t 5), none, 0, 0⟩,
             ⟨(some 19), .indexAddr 1 (.t 17) (.t 18), none, 3, 0⟩,
             ⟨(some 20), .load 1 false (.t 19), none, 7, 0⟩,
             ⟨(some 21), .mov (.t 1), none, 0, 0⟩,
             ⟨(some 22), .mov (.t 5), none, 0, 0⟩,
             ⟨(some 23), .indexAddr 1 (.t 21) (.t 22), none, 48, 0⟩,
             ⟨(some 24), .load 1 false (.t 23), none, 112, 0⟩,
             ⟨(some 25), .bin .neq (.t 20) (.t 24), none, 255, 0⟩] true)
           (.cond (.t 25)
            (.seq
             (.region [⟨(some 4), .mov (.c (.d (.sc (.bool false)))), none, 0, 0⟩] false)
             .ret)
            .skip)))
         (.region [⟨(some 15), .mov (.t 5), none, 0, 0⟩,
           ⟨(some 16), .bin .add (.t 15) (.c (.d (.sc (.int .i64 1)))), none, 0, 0⟩,
           ⟨(some 5), .mov (.t 16), none, 0, 0⟩] false))))))
    (.seq
     (.region [⟨(some 4), .mov (.c (.d (.sc (.bool true)))), none, 0, 0⟩] false)
     .ret)))), false⟩
/-- wreckage/wreckagelaw19.RoutineMakes -/
def t3 : AFn := ⟨4, 69, [.t 8],
 (.seq
  (.region [⟨(some 8), .mov (.c (.d (.sc (.bool false)))), none, 0, 0⟩] false)
  (.seq
   (.seq
    (.region [⟨(some 17), .mov (.t 3), none, 0, 0⟩,
      ⟨(some 18), .len (.t 17), none, 0, 0⟩,
      ⟨(some 19), .bin .gtr (.t 18) (.c (.d (.sc (.int .i64 20)))), none, 0, 0⟩] false)
    (.cond (.t 19)
     (.seq
      (.region [⟨(some 8), .mov (.c (.d (.sc (.bool true)))), none, 0, 0⟩] false)
      .ret)
     .skip))
   (.seq
    (.region [⟨(some 21), .mov (.t 0), none, 0, 0⟩,
      ⟨(some 22), .mov (.t 1), none, 0, 0⟩,
      ⟨(some 23), .mov (.t 2), none, 0, 0⟩,
      ⟨(some 24), .call 9 [(.t 21), (.t 22), (.t 23)], none, 0, 0⟩,
      ⟨(some 20), .mov (.t 24), none, 0, 0⟩,
      ⟨(some 25), .extract (.t 20) 0, none, 0, 0⟩,
      ⟨(some 26), .extract (.t 20) 1, none, 0, 0⟩,
      ⟨(some 9), .alloc [(.d (.sc (.int .u8 0))), (.d (.sc (.int .u64 0))), (.d (.sc (.int .u64 0))), (.d (.sc (.int .u64 0))), (.d (.sc (.int .u64 0))), (.d (.sc (.int .i64 0)))], none, 0, 0⟩,
      ⟨none, .store 6 (.t 9) (.t 25), none, 0, 0⟩,
      ⟨(some 10), .mov (.t 26), none, 0, 0⟩] false)
    (.seq
     (.region [⟨(some 28), .mov (.t 0), none, 0, 0⟩,
       ⟨(some 29), .mov (.t 1), none, 0, 0⟩,
       ⟨(some 30), .mov (.t 2), none, 0, 0⟩,
       ⟨(some 31), .call 10 [(.t 28), (.t 29), (.t 30)], none, 0, 0⟩,
       ⟨(some 27), .mov (.t 31), none, 0, 0⟩,
       ⟨(some 32), .extract (.t 27) 0, none, 0, 0⟩,
       ⟨(some 33), .extract (.t 27) 1, none, 0, 0⟩,
       ⟨(some 11), .alloc [(.d (.sc (.int .u8 0))), (.d (.sc (.int .u64 0))), (.d (.sc (.int .u64 0))), (.d (.sc (.int .u64 0))), (.d (.sc (.int .u64 0))), (.d (.sc (.int .i64 0)))], none, 0, 0⟩,
       ⟨none, .store 6 (.t 11) (.t 32), none, 0, 0⟩,
       ⟨(some 12), .mov (.t 33), none, 0, 0⟩] false)
     (.seq
      (.region [⟨(some 35), .mov (.t 3), none, 0, 0⟩,
        ⟨(some 36), .call 11 [(.t 35)], none, 0, 0⟩,
        ⟨(some 34), .mov (.t 36), none, 0, 0⟩,
        ⟨(some 37), .extract (.t 34) 0, none, 0, 0⟩,
        ⟨(some 38), .extract (.t 34) 1, none, 0, 0⟩,
        ⟨(some 13), .mov (.t 37), none, 0, 0⟩,
        ⟨(some 14), .mov (.t 38), none, 0, 0⟩] false)
      (.seq
       (.region [⟨(some 40), .mov (.t 3), none, 0, 0⟩,
         ⟨(some 41), .call 12 [(.t 40)], none, 0, 0⟩,
         ⟨(some 39), .mov (.t 41), none, 0, 0⟩,
         ⟨(some 42), .extract (.t 39) 0, none, 0, 0⟩,
         ⟨(some 43), .extract (.t 39) 1, none, 0, 0⟩,
         ⟨(some 15), .mov (.t 42), none, 0, 0⟩,
         ⟨(some 16), .mov (.t 43), none, 0, 0⟩] false)
       (.seq
        (.region [⟨(some 44), .load 6 true (.t 9), none, 0, 0⟩,
          ⟨(some 45), .load 6 true (.t 11), none, 0, 0⟩,
          ⟨(some 46), .eqA false 6 [(0, 1), (1, 1), (2, 1), (3, 1), (4, 1), (5, 1)] (.t 44) (.t 45), none, 0, 0⟩,
          ⟨(some 47), .mov (.t 46), none, 0, 0⟩,
          ⟨(some 48), .mov (.t 10), (some (47, true)), 0, 0⟩,
          ⟨(some 49), .mov (.t 12), (some (47, true)), 0, 0⟩,
          ⟨(some 50), .bin .eql (.t 48) (.t 49), (some (47, true)), 0, 0⟩,
          ⟨(some 51), .pick (.t 47) (.t 50) (.c (.d (.sc (.bool false)))), none, 0, 0⟩,
          ⟨(some 52), .mov (.t 51), none, 0, 0⟩,
          ⟨(some 53), .mov (.t 3), (some (52, true)), 0, 0⟩,
          ⟨(some 54), .call 13 [(.t 53)], (some (52, true)), 0, 0⟩,
          ⟨(some 55), .mov (.t 3), (some (52, true)), 0, 0⟩,
          ⟨(some 56), .call 14 [(.t 55)], (some (52, true)), 0, 0⟩,
          ⟨(some 57), .bin .eql (.t 54) (.t 56), (some (52, true)), 0, 0⟩,
          ⟨(some 58), .pick (.t 52) (.t 57) (.c (.d (.sc (.bool false)))), none, 0, 0⟩,
          ⟨(some 59), .mov (.t 58), none, 0, 0⟩,
          ⟨(some 60), .mov (.t 13), (some (59, true)), 0, 0⟩,
          ⟨(some 61), .mov (.t 15), (some (59, true)), 0, 0⟩,
          ⟨(some 62), .call 15 [(.t 60), (.t 61)], (some (59, true)), 0, 0⟩,
          ⟨(some 63), .pick (.t 59) (.t 62) (.c (.d (.sc (.bool false)))), none, 0, 0⟩,
          ⟨(some 64), .mov (.t 63), none, 0, 0⟩,
          ⟨(some 65), .mov (.t 14), (some (64, true)), 0, 0⟩,
          ⟨(some 66), .mov (.t 16), (some (64, true)), 0, 0⟩,
          ⟨(some 67), .bin .eql (.t 65) (.t 66), (some (64, true)), 0, 0⟩,
          ⟨(some 68), .pick (.t 64) (.t 67) (.c (.d (.sc (.bool false)))), none, 0, 0⟩,
          ⟨(some 8), .mov (.t 68), none, 0, 0⟩] false)
        .ret))))))), false⟩
/-- wreckage/wreckagelaw19.three -/
def t32 : AFn := ⟨0, 23, [.t 0],
 (.seq
  (.region [⟨(some 0), .mov (.c (.own [] .full)), none, 0, 0⟩] false)
  (.seq
   (.region [⟨(some 1), .mov (.c (.own [] .full)), none, 0, 0⟩] false)
   (.seq
    (.seq
     (.region [⟨(some 2), .mov (.c (.d (.sc (.int .i64 0)))), none, 0, 0⟩] false)
     (.block 0
      (.loop
       (.seq
        (.seq
         (.region [⟨(some 5), .mov (.t 2), none, 0, 0⟩,
           ⟨(some 6), .bin .lss (.t 5) (.c (.d (.sc (.int .i64 3)))), none, 0, 0⟩] false)
         (.cond (.t 6)
          .skip
          (.exit 0)))
        (.seq
         (.block 1
          (.seq
           (.region [⟨(some 10), .mov (.t 2), none, 0, 0⟩,
             ⟨(some 11), .call 10 [(.t 10), (.c (.d (.sc (.int .u64 256)))), (.c (.d (.sc (.int .i64 24))))], none, 0, 0⟩,
             ⟨(some 9), .mov (.t 11), none, 0, 0⟩,
             ⟨(some 12), .extract (.t 9) 0, none, 0, 0⟩,
             ⟨(some 13), .extract (.t 9) 1, none, 0, 0⟩,
             ⟨(some 3), .alloc [(.d (.sc (.int .u8 0))), (.d (.sc (.int .u64 0))), (.d (.sc (.int .u64 0))), (.d (.sc (.int .u64 0))), (.d (.sc (.int .u64 0))), (.d (.sc (.int .i64 0)))], none, 0, 0⟩,
             ⟨none, .store 6 (.t 3) (.t 12), none, 0, 0⟩,
             ⟨(some 4), .mov (.t 13), none, 0, 0⟩] false)
           (.seq
            (.seq
             (.region [⟨(some 14), .mov (.t 2), none, 0, 0⟩,
               ⟨(some 15), .bin .neq (.t 14) (.c (.d (.sc (.int .i64 1)))), none, 0, 0⟩] false)
             (.cond (.t 15)
              (.region [⟨(some 16), .fieldAddr 0 (.t 3), none, 0, 0⟩,
                ⟨none, .store 1 (.t 16) (.c (.d (.sc (.int .u8 2)))), none, 0, 0⟩,
                ⟨(some 17), .fieldAddr 5 (.t 3), none, 0, 0⟩,
                ⟨none, .store 1 (.t 17) (.c (.d (.sc (.int .i64 5)))), none, 0, 0⟩] false)
              .skip))
            (.region [⟨(some 18), .mov (.t 1), none, 0, 0⟩,
              ⟨(some 19), .load 6 true (.t 3), none, 0, 0⟩,
              ⟨(some 20), .buildSlice 6 1 [(.sc (.int .u8 0)), (.sc (.int .u64 0)), (.sc (.int .u64 0)), (.sc (.int .u64 0)), (.sc (.int .u64 0)), (.sc (.int .i64 0))] [(0, (.t 19))], none, 0, 0⟩,
              ⟨(some 21), .append 6 48 (.t 18) (.t 20), none, 0, 0⟩,
              ⟨(some 1), .mov (.t 21), none, 0, 0⟩] false))))
         (.region [⟨(some 7), .mov (.t 2), none, 0, 0⟩,
           ⟨(some 8), .bin .add (.t 7) (.c (.d (.sc (.int .i64 1)))), none, 0, 0⟩,
           ⟨(some 2), .mov (.t 8), none, 0, 0⟩] false))))))
    (.seq
     (.region [⟨(some 22), .mov (.t 1), none, 0, 0⟩,
       ⟨(some 0), .mov (.t 22), none, 0, 0⟩] false)
     .ret)))), false⟩
/-- wreckage/routine.Wake$1 -/
def t35 : AFn := ⟨2, 13, [.t 3],
 (.seq
  (.region [⟨(some 2), .box (.t 0), none, 0, 0⟩,
    ⟨(some 3), .mov (.c (.d (.sc (.bool false)))), none, 0, 0⟩] false)
  (.seq
   (.region [⟨(some 4), .fieldAddr 0 (.t 2), none, 0, 0⟩,
     ⟨(some 5), .load 1 false (.t 4), none, 0, 0⟩,
     ⟨(some 6), .bin .eql (.t 5) (.c (.d (.sc (.int .u8 2)))), none, 0, 0⟩,
     ⟨(some 7), .mov (.t 6), none, 0, 0⟩,
     ⟨(some 8), .fieldAddr 5 (.t 2), (some (7, true)), 0, 0⟩,
     ⟨(some 9), .load 1 false (.t 8), (some (7, true)), 0, 0⟩,
     ⟨(some 10), .load 1 false (.t 1), (some (7, true)), 0, 0⟩,
     ⟨(some 11), .bin .eql (.t 9) (.t 10), (some (7, true)), 0, 0⟩,
     ⟨(some 12), .pick (.t 7) (.t 11) (.c (.d (.sc (.bool false)))), none, 0, 0⟩,
     ⟨(some 3), .mov (.t 12), none, 0, 0⟩] false)
   .ret)), true⟩
/-- slices.IndexFunc[[]wreckage/api.Routine,wreckage/api.Routine] -/
def t34 : AFn := ⟨2, 19, [.t 4],
 (.seq
  (.region [⟨(some 4), .mov (.c (.d (.sc (.int .i64 0)))), none, 0, 0⟩] false)
  (.seq
   (.seq
    (.region [⟨(some 6), .mov (.t 0), none, 0, 0⟩,
      ⟨(some 7), .len (.t 6), none, 0, 0⟩,
      ⟨(some 8), .mov (.c (.d (.sc (.int .i64 0)))), none, 0, 0⟩] false)
    (.block 0
     (.loop
      (.seq
       (.region [⟨(some 9), .bin .lss (.t 8) (.t 7), none, 0, 0⟩] false)
       (.seq
        (.cond (.t 9)
         .skip
         (.exit 0))
        (.seq
         (.block 1
          (.seq
           (.region [⟨(some 10), .mov (.t 8), none, 0, 0⟩,
             ⟨(some 5), .mov (.t 10), none, 0, 0⟩] false)
           (.seq
            (.region [⟨(some 11), .mov (.t 1), none, 0, 0⟩,
              ⟨(some 12), .mov (.t 0), none, 0, 0⟩,
              ⟨(some 13), .mov (.t 5), none, 0, 0⟩,
              ⟨(some 14), .indexAddr 6 (.t 12) (.t 13), none, 0, 0⟩,
              ⟨(some 15), .load 6 true (.t 14), none, 0, 0⟩,
              ⟨(some 16), .callv (.t 11) [(.t 15)], none, 0, 0⟩] false)
            (.cond (.t 16)
             (.seq
              (.region [⟨(some 17), .mov (.t 5), none, 0, 0⟩,
                ⟨(some 4), .mov (.t 17), none, 0, 0⟩] false)
              .ret)
             .skip))))
         (.region [⟨(some 18), .bin .add (.t 8) (.c (.d (.sc (.int .i64 1)))), none, 0, 0⟩,
           ⟨(some 8), .mov (.t 18), none, 0, 0⟩] false)))))))
   (.seq
    (.region [⟨(some 4), .mov (.c (.d (.sc (.int .i64 (-1))))), none, 0, 0⟩] false)
    .ret))), true⟩
/-- wreckage/routine.Wake -/
def t17 : AFn := ⟨2, 32, [.t 4, .t 5, .t 6],
 (.seq
  (.region [⟨(some 3), .box (.t 1), none, 0, 0⟩,
    ⟨(some 4), .mov (.c (.own [] .full)), none, 0, 0⟩,
    ⟨(some 5), .mov (.c (.d (.sc (.int .i64 0)))), none, 0, 0⟩,
    ⟨(some 6), .mov (.c (.d (.sc (.int .i64 0)))), none, 0, 0⟩] false)
  (.seq
   (.seq
    (.region [⟨(some 10), .mov (.t 0), none, 0, 0⟩,
      ⟨(some 11), .call 13 [(.t 10)], none, 0, 0⟩,
      ⟨(some 7), .mov (.t 11), none, 0, 0⟩] false)
    (.seq
     (.region [⟨(some 12), .mov (.t 7), none, 0, 0⟩,
       ⟨(some 13), .bin .neq (.t 12) (.c (.d (.sc (.int .i64 0)))), none, 0, 0⟩] false)
     (.cond (.t 13)
      (.seq
       (.region [⟨(some 14), .mov (.t 7), none, 0, 0⟩,
         ⟨(some 4), .mov (.c (.own [] .full)), none, 0, 0⟩,
         ⟨(some 5), .mov (.c (.d (.sc (.int .i64 0)))), none, 0, 0⟩,
         ⟨(some 6), .mov (.t 14), none, 0, 0⟩] false)
       .ret)
      .skip)))
   (.seq
    (.region [⟨(some 15), .mov (.t 0), none, 0, 0⟩,
      ⟨(some 16), .clone 6 48 (.t 15), none, 0, 1⟩,
      ⟨(some 8), .mov (.t 16), none, 0, 1⟩] false)
    (.seq
     (.region [⟨(some 17), .mov (.t 8), none, 0, 0⟩,
       ⟨(some 18), .makeFunc 35 [(.t 3)], none, 0, 0⟩,
       ⟨(some 19), .call 34 [(.t 17), (.t 18)], none, 0, 0⟩,
       ⟨(some 9), .mov (.t 19), none, 0, 0⟩] false)
     (.seq
      (.seq
       (.region [⟨(some 20), .mov (.t 9), none, 0, 0⟩,
         ⟨(some 21), .bin .geq (.t 20) (.c (.d (.sc (.int .i64 0)))), none, 0, 0⟩] false)
       (.cond (.t 21)
        (.region [⟨(some 22), .mov (.t 8), none, 0, 1⟩,
          ⟨(some 23), .mov (.t 9), none, 0, 0⟩,
          ⟨(some 24), .mov (.t 8), none, 0, 1⟩,
          ⟨(some 25), .mov (.t 9), none, 0, 0⟩,
          ⟨(some 26), .indexAddr 6 (.t 22) (.t 23), none, 0, 0⟩,
          ⟨(some 27), .fieldAddr 0 (.t 26), none, 0, 0⟩,
          ⟨none, .store 1 (.t 27) (.c (.d (.sc (.int .u8 1)))), none, 0, 0⟩,
          ⟨(some 28), .indexAddr 6 (.t 24) (.t 25), none, 0, 0⟩,
          ⟨(some 29), .fieldAddr 5 (.t 28), none, 0, 0⟩,
          ⟨none, .store 1 (.t 29) (.c (.d (.sc (.int .i64 0)))), none, 0, 0⟩] false)
        .skip))
      (.seq
       (.region [⟨(some 30), .mov (.t 8), none, 0, 0⟩,
         ⟨(some 31), .mov (.t 9), none, 0, 0⟩,
         ⟨(some 4), .mov (.t 30), none, 0, 0⟩,
         ⟨(some 5), .mov (.t 31), none, 0, 0⟩,
         ⟨(some 6), .mov (.c (.d (.sc (.int .i64 0)))), none, 0, 0⟩] false)
       .ret)))))), false⟩
/-- wreckage/wreckagelaw19.alive -/
def t16 : AFn := ⟨0, 83, [.t 0],
 (.seq
  (.region [⟨(some 0), .mov (.c (.d (.sc (.bool false)))), none, 0, 0⟩] false)
  (.seq
   (.region [⟨(some 16), .call 32 [], none, 0, 0⟩,
     ⟨(some 17), .call 17 [(.t 16), (.c (.d (.sc (.int .i64 5))))], none, 0, 0⟩,
     ⟨(some 15), .mov (.t 17), none, 0, 0⟩,
     ⟨(some 18), .extract (.t 15) 0, none, 0, 0⟩,
     ⟨(some 19), .extract (.t 15) 1, none, 0, 0⟩,
     ⟨(some 20), .extract (.t 15) 2, none, 0, 0⟩,
     ⟨(some 1), .mov (.t 18), none, 0, 0⟩,
     ⟨(some 2), .mov (.t 19), none, 0, 0⟩,
     ⟨(some 3), .mov (.t 20), none, 0, 0⟩] false)
   (.seq
    (.region [⟨(some 22), .mov (.t 1), none, 0, 0⟩,
      ⟨(some 23), .call 17 [(.t 22), (.c (.d (.sc (.int .i64 5))))], none, 0, 0⟩,
      ⟨(some 21), .mov (.t 23), none, 0, 0⟩,
      ⟨(some 24), .extract (.t 21) 0, none, 0, 0⟩,
      ⟨(some 25), .extract (.t 21) 1, none, 0, 0⟩,
      ⟨(some 26), .extract (.t 21) 2, none, 0, 0⟩,
      ⟨(some 4), .mov (.t 24), none, 0, 0⟩,
      ⟨(some 5), .mov (.t 25), none, 0, 0⟩,
      ⟨(some 6), .mov (.t 26), none, 0, 0⟩] false)
    (.seq
     (.region [⟨(some 28), .mov (.t 4), none, 0, 0⟩,
       ⟨(some 29), .call 17 [(.t 28), (.c (.d (.sc (.int .i64 5))))], none, 0, 0⟩,
       ⟨(some 27), .mov (.t 29), none, 0, 0⟩,
       ⟨(some 30), .extract (.t 27) 0, none, 0, 0⟩,
       ⟨(some 31), .extract (.t 27) 1, none, 0, 0⟩,
       ⟨(some 32), .extract (.t 27) 2, none, 0, 0⟩,
       ⟨(some 7), .mov (.t 30), none, 0, 0⟩,
       ⟨(some 8), .mov (.t 31), none, 0, 0⟩,
       ⟨(some 9), .mov (.t 32), none, 0, 0⟩] false)
     (.seq
      (.region [⟨(some 34), .call 32 [], none, 0, 0⟩,
        ⟨(some 35), .call 17 [(.t 34), (.c (.d (.sc (.int .i64 6))))], none, 0, 0⟩,
        ⟨(some 33), .mov (.t 35), none, 0, 0⟩,
        ⟨(some 36), .extract (.t 33) 0, none, 0, 0⟩,
        ⟨(some 37), .extract (.t 33) 1, none, 0, 0⟩,
        ⟨(some 38), .extract (.t 33) 2, none, 0, 0⟩,
        ⟨(some 10), .mov (.t 36), none, 0, 0⟩,
        ⟨(some 11), .mov (.t 37), none, 0, 0⟩,
        ⟨(some 12), .mov (.t 38), none, 0, 0⟩] false)
      (.seq
       (.region [⟨(some 40), .mov (.t 7), none, 0, 0⟩,
         ⟨(some 41), .call 11 [(.t 40)], none, 0, 0⟩,
         ⟨(some 39), .mov (.t 41), none, 0, 0⟩,
         ⟨(some 42), .extract (.t 39) 0, none, 0, 0⟩,
         ⟨(some 43), .extract (.t 39) 1, none, 0, 0⟩,
         ⟨(some 13), .mov (.t 42), none, 0, 0⟩,
         ⟨(some 14), .mov (.t 43), none, 0, 0⟩] false)
       (.seq
        (.region [⟨(some 44), .mov (.t 3), none, 0, 0⟩,
          ⟨(some 45), .bin .eql (.t 44) (.c (.d (.sc (.int .i64 0)))), none, 0, 0⟩,
          ⟨(some 46), .mov (.t 45), none, 0, 0⟩,
          ⟨(some 47), .mov (.t 6), (some (46, true)), 0, 0⟩,
          ⟨(some 48), .bin .eql (.t 47) (.c (.d (.sc (.int .i64 0)))), (some (46, true)), 0, 0⟩,
          ⟨(some 49), .pick (.t 46) (.t 48) (.c (.d (.sc (.bool false)))), none, 0, 0⟩,
          ⟨(some 50), .mov (.t 49), none, 0, 0⟩,
          ⟨(some 51), .mov (.t 9), (some (50, true)), 0, 0⟩,
          ⟨(some 52), .bin .eql (.t 51) (.c (.d (.sc (.int .i64 0)))), (some (50, true)), 0, 0⟩,
          ⟨(some 53), .pick (.t 50) (.t 52) (.c (.d (.sc (.bool false)))), none, 0, 0⟩,
          ⟨(some 54), .mov (.t 53), none, 0, 0⟩,
          ⟨(some 55), .mov (.t 12), (some (54, true)), 0, 0⟩,
          ⟨(some 56), .bin .eql (.t 55) (.c (.d (.sc (.int .i64 0)))), (some (54, true)), 0, 0⟩,
          ⟨(some 57), .pick (.t 54) (.t 56) (.c (.d (.sc (.bool false)))), none, 0, 0⟩,
          ⟨(some 58), .mov (.t 57), none, 0, 0⟩,
          ⟨(some 59), .mov (.t 14), (some (58, true)), 0, 0⟩,
          ⟨(some 60), .bin .eql (.t 59) (.c (.d (.sc (.int .i64 0)))), (some (58, true)), 0, 0⟩,
          ⟨(some 61), .pick (.t 58) (.t 60) (.c (.d (.sc (.bool false)))), none, 0, 0⟩,
          ⟨(some 62), .mov (.t 61), none, 0, 0⟩,
          ⟨(some 63), .mov (.t 2), (some (62, true)), 0, 0⟩,
          ⟨(some 64), .bin .eql (.t 63) (.c (.d (.sc (.int .i64 0)))), (some (62, true)), 0, 0⟩,
          ⟨(some 65), .pick (.t 62) (.t 64) (.c (.d (.sc (.bool false)))), none, 0, 0⟩,
          ⟨(some 66), .mov (.t 65), none, 0, 0⟩,
          ⟨(some 67), .mov (.t 5), (some (66, true)), 0, 0⟩,
          ⟨(some 68), .bin .eql (.t 67) (.c (.d (.sc (.int .i64 2)))), (some (66, true)), 0, 0⟩,
          ⟨(some 69), .pick (.t 66) (.t 68) (.c (.d (.sc (.bool false)))), none, 0, 0⟩,
          ⟨(some 70), .mov (.t 69), none, 0, 0⟩,
          ⟨(some 71), .mov (.t 8), (some (70, true)), 0, 0⟩,
          ⟨(some 72), .bin .eql (.t 71) (.c (.d (.sc (.int .i64 (-1))))), (some (70, true)), 0, 0⟩,
          ⟨(some 73), .pick (.t 70) (.t 72) (.c (.d (.sc (.bool false)))), none, 0, 0⟩,
          ⟨(some 74), .mov (.t 73), none, 0, 0⟩,
          ⟨(some 75), .mov (.t 11), (some (74, true)), 0, 0⟩,
          ⟨(some 76), .bin .eql (.t 75) (.c (.d (.sc (.int .i64 (-1))))), (some (74, true)), 0, 0⟩,
          ⟨(some 77), .pick (.t 74) (.t 76) (.c (.d (.sc (.bool false)))), none, 0, 0⟩,
          ⟨(some 78), .mov (.t 77), none, 0, 0⟩,
          ⟨(some 79), .mov (.t 13), (some (78, true)), 0, 0⟩,
          ⟨(some 80), .buildSlice 1 3 [(.sc (.int .i64 0))] [(0, (.c (.d (.sc (.int .i64 0))))), (1, (.c (.d (.sc (.int .i64 1))))), (2, (.c (.d (.sc (.int .i64 2)))))], (some (78, true)), 0, 0⟩,
          ⟨(some 81), .call 15 [(.t 79), (.t 80)], (some (78, true)), 0, 0⟩,
          ⟨(some 82), .pick (.t 78) (.t 81) (.c (.d (.sc (.bool false)))), none, 0, 0⟩,
          ⟨(some 0), .mov (.t 82), none, 0, 0⟩] false)
        .ret))))))), false⟩
/-- wreckage/wreckagelaw19.RoutineFirst -/
def t4 : AFn := ⟨2, 97, [.t 4],
 (.seq
  (.region [⟨(some 4), .mov (.c (.d (.sc (.bool false)))), none, 0, 0⟩] false)
  (.seq
   (.region [⟨(some 13), .call 16 [], none, 0, 0⟩,
     ⟨(some 5), .mov (.t 13), none, 0, 0⟩] false)
   (.seq
    (.seq
     (.region [⟨(some 14), .mov (.t 0), none, 0, 0⟩,
       ⟨(some 15), .call 14 [(.t 14)], none, 0, 0⟩,
       ⟨(some 16), .bin .neq (.t 15) (.c (.d (.sc (.int .i64 0)))), none, 0, 0⟩,
       ⟨(some 17), .mov (.t 16), none, 0, 0⟩,
       ⟨(some 18), .mov (.t 5), (some (17, false)), 0, 0⟩,
       ⟨(some 19), .un .not (.t 18), (some (17, false)), 0, 0⟩,
       ⟨(some 20), .pick (.t 17) (.c (.d (.sc (.bool true)))) (.t 19), none, 0, 0⟩] false)
     (.cond (.t 20)
      (.seq
       (.region [⟨(some 21), .mov (.t 5), none, 0, 0⟩,
         ⟨(some 4), .mov (.t 21), none, 0, 0⟩] false)
       .ret)
      .skip))
    (.seq
     (.region [⟨(some 23), .mov (.t 0), none, 0, 0⟩,
       ⟨(some 24), .mov (.t 1), none, 0, 0⟩,
       ⟨(some 25), .call 17 [(.t 23), (.t 24)], none, 0, 0⟩,
       ⟨(some 22), .mov (.t 25), none, 0, 0⟩,
       ⟨(some 26), .extract (.t 22) 0, none, 0, 0⟩,
       ⟨(some 27), .extract (.t 22) 1, none, 0, 0⟩,
       ⟨(some 28), .extract (.t 22) 2, none, 0, 0⟩,
       ⟨(some 6), .mov (.t 26), none, 0, 0⟩,
       ⟨(some 7), .mov (.t 27), none, 0, 0⟩,
       ⟨(some 8), .mov (.t 28), none, 0, 0⟩] false)
     (.seq
      (.seq
       (.region [⟨(some 29), .mov (.t 8), none, 0, 0⟩,
         ⟨(some 30), .bin .neq (.t 29) (.c (.d (.sc (.int .i64 0)))), none, 0, 0⟩,
         ⟨(some 31), .mov (.t 30), none, 0, 0⟩,
         ⟨(some 32), .mov (.t 6), (some (31, false)), 0, 0⟩,
         ⟨(some 33), .len (.t 32), (some (31, false)), 0, 0⟩,
         ⟨(some 34), .mov (.t 0), (some (31, false)), 0, 0⟩,
         ⟨(some 35), .len (.t 34), (some (31, false)), 0, 0⟩,
         ⟨(some 36), .bin .neq (.t 33) (.t 35), (some (31, false)), 0, 0⟩,
         ⟨(some 37), .pick (.t 31) (.c (.d (.sc (.bool true)))) (.t 36), none, 0, 0⟩,
         ⟨(some 38), .mov (.t 37), none, 0, 0⟩,
         ⟨(some 39), .mov (.t 6), (some (38, false)), 0, 0⟩,
         ⟨(some 40), .call 13 [(.t 39)], (some (38, false)), 0, 0⟩,
         ⟨(some 41), .bin .neq (.t 40) (.c (.d (.sc (.int .i64 0)))), (some (38, false)), 0, 0⟩,
         ⟨(some 42), .pick (.t 38) (.c (.d (.sc (.bool true)))) (.t 41), none, 0, 0⟩] false)
       (.cond (.t 42)
        (.seq
         (.region [⟨(some 4), .mov (.c (.d (.sc (.bool false)))), none, 0, 0⟩] false)
         .ret)
        .skip))
      (.seq
       (.region [⟨(some 9), .mov (.c (.d (.sc (.int .i64 (-1))))), none, 0, 0⟩] false)
       (.seq
        (.seq
         (.region [⟨(some 10), .mov (.c (.d (.sc (.int .i64 0)))), none, 0, 0⟩] false)
         (.block 0
          (.loop
           (.seq
            (.seq
             (.region [⟨(some 43), .mov (.t 10), none, 0, 0⟩,
               ⟨(some 44), .mov (.t 0), none, 0, 0⟩,
               ⟨(some 45), .len (.t 44), none, 0, 0⟩,
               ⟨(some 46), .bin .lss (.t 43) (.t 45), none, 0, 0⟩] false)
             (.cond (.t 46)
              .skip
              (.exit 0)))
            (.seq
             (.block 1
              (.seq
               (.region [⟨(some 49), .mov (.t 0), none, 0, 0⟩,
                 ⟨(some 50), .mov (.t 10), none, 0, 0⟩,
                 ⟨(some 51), .indexAddr 6 (.t 49) (.t 50), none, 0, 0⟩,
                 ⟨(some 52), .fieldAddr 0 (.t 51), none, 0, 0⟩,
                 ⟨(some 53), .load 1 false (.t 52), none, 0, 0⟩,
                 ⟨(some 54), .bin .eql (.t 53) (.c (.d (.sc (.int .u8 2)))), none, 0, 0⟩,
                 ⟨(some 55), .mov (.t 54), none, 0, 0⟩,
                 ⟨(some 56), .mov (.t 0), (some (55, true)), 0, 0⟩,
                 ⟨(some 57), .mov (.t 10), (some (55, true)), 0, 0⟩,
                 ⟨(some 58), .indexAddr 6 (.t 56) (.t 57), (some (55, true)), 0, 0⟩,
                 ⟨(some 59), .fieldAddr 5 (.t 58), (some (55, true)), 0, 0⟩,
                 ⟨(some 60), .load 1 false (.t 59), (some (55, true)), 0, 0⟩,
                 ⟨(some 61), .mov (.t 1), (some (55, true)), 0, 0⟩,
                 ⟨(some 62), .bin .eql (.t 60) (.t 61), (some (55, true)), 0, 0⟩,
                 ⟨(some 63), .pick (.t 55) (.t 62) (.c (.d (.sc (.bool false)))), none, 0, 0⟩,
                 ⟨(some 11), .mov (.t 63), none, 0, 0⟩] false)
               (.seq
                (.seq
                 (.region [⟨(some 64), .mov (.t 11), none, 0, 0⟩,
                   ⟨(some 65), .mov (.t 64), none, 0, 0⟩,
                   ⟨(some 66), .mov (.t 9), (some (65, true)), 0, 0⟩,
                   ⟨(some 67), .bin .lss (.t 66) (.c (.d (.sc (.int .i64 0)))), (some (65, true)), 0, 0⟩,
                   ⟨(some 68), .pick (.t 65) (.t 67) (.c (.d (.sc (.bool false)))), none, 0, 0⟩] false)
                 (.cond (.t 68)
                  (.seq
                   (.region [⟨(some 69), .mov (.t 10), none, 0, 0⟩,
                     ⟨(some 9), .mov (.t 69), none, 0, 0⟩] false)
                   (.seq
                    (.region [⟨(some 70), .mov (.t 0), none, 0, 0⟩,
                      ⟨(some 71), .mov (.t 10), none, 0, 0⟩,
                      ⟨(some 72), .indexAddr 6 (.t 70) (.t 71), none, 0, 0⟩,
                      ⟨(some 73), .load 6 true (.t 72), none, 0, 0⟩,
                      ⟨(some 12), .alloc [(.d (.sc (.int .u8 0))), (.d (.sc (.int .u64 0))), (.d (.sc (.int .u64 0))), (.d (.sc (.int .u64 0))), (.d (.sc (.int .u64 0))), (.d (.sc (.int .i64 0)))], none, 0, 0⟩,
                      ⟨none, .store 6 (.t 12) (.t 73), none, 0, 0⟩] false)
                    (.seq
                     (.region [⟨(some 74), .fieldAddr 0 (.t 12), none, 0, 0⟩,
                       ⟨none, .store 1 (.t 74) (.c (.d (.sc (.int .u8 1)))), none, 0, 0⟩,
                       ⟨(some 75), .fieldAddr 5 (.t 12), none, 0, 0⟩,
                       ⟨none, .store 1 (.t 75) (.c (.d (.sc (.int .i64 0)))), none, 0, 0⟩] false)
                     (.seq
                      (.seq
                       (.region [⟨(some 76), .mov (.t 6), none, 0, 0⟩,
                         ⟨(some 77), .mov (.t 10), none, 0, 0⟩,
                         ⟨(some 78), .indexAddr 6 (.t 76) (.t 77), none, 3, 0⟩,
                         ⟨(some 79), .load 6 true (.t 78), none, 7, 0⟩,
                         ⟨(some 80), .load 6 true (.t 12), none, 0, 0⟩,
                         ⟨(some 81), .eqA true 6 [(0, 1), (1, 1), (2, 1), (3, 1), (4, 1), (5, 1)] (.t 79) (.t 80), none, 31, 0⟩] true)
                       (.cond (.t 81)
                        (.seq
                         (.region [⟨(some 4), .mov (.c (.d (.sc (.bool false)))), none, 0, 0⟩] false)
                         .ret)
                        .skip))
                      (.exit 1)))))
                  .skip))
                (.seq
                 (.region [⟨(some 82), .mov (.t 6), none, 0, 0⟩,
                   ⟨(some 83), .mov (.t 10), none, 0, 0⟩,
                   ⟨(some 84), .indexAddr 6 (.t 82) (.t 83), none, 3, 0⟩,
                   ⟨(some 85), .load 6 true (.t 84), none, 7, 0⟩,
                   ⟨(some 86), .mov (.t 0), none, 0, 0⟩,
                   ⟨(some 87), .mov (.t 10), none, 0, 0⟩,
                   ⟨(some 88), .indexAddr 6 (.t 86) (.t 87), none, 48, 0⟩,
                   ⟨(some 89), .load 6 true (.t 88), none, 112, 0⟩,
                   ⟨(some 90), .eqA true 6 [(0, 1), (1, 1), (2, 1), (3, 1), (4, 1), (5, 1)] (.t 85) (.t 89), none, 255, 0⟩] true)
                 (.cond (.t 90)
                  (.seq
                   (.region [⟨(some 4), .mov (.c (.d (.sc (.bool false)))), none, 0, 0⟩] false)
                   .ret)
                  .skip)))))
             (.region [⟨(some 47), .mov (.t 10), none, 0, 0⟩,
               ⟨(some 48), .bin .add (.t 47) (.c (.d (.sc (.int .i64 1)))), none, 0, 0⟩,
               ⟨(some 10), .mov (.t 48), none, 0, 0⟩] false))))))
        (.seq
         (.region [⟨(some 91), .mov (.t 5), none, 0, 0⟩,
           ⟨(some 92), .mov (.t 91), none, 0, 0⟩,
           ⟨(some 93), .mov (.t 7), (some (92, true)), 0, 0⟩,
           ⟨(some 94), .mov (.t 9), (some (92, true)), 0, 0⟩,
           ⟨(some 95), .bin .eql (.t 93) (.t 94), (some (92, true)), 0, 0⟩,
           ⟨(some 96), .pick (.t 92) (.t 95) (.c (.d (.sc (.bool false)))), none, 0, 0⟩,
           ⟨(some 4), .mov (.t 96), none, 0, 0⟩] false)
         .ret)))))))), false⟩
/-- wreckage/routine.numbered -/
def t36 : AFn := ⟨2, 19, [.t 4],
 (.seq
  (.region [⟨(some 4), .mov (.c (.d (.sc (.int .i64 0)))), none, 0, 0⟩] false)
  (.seq
   (.seq
    (.region [⟨(some 6), .mov (.t 0), none, 0, 0⟩,
      ⟨(some 7), .call 13 [(.t 6)], none, 0, 0⟩,
      ⟨(some 5), .mov (.t 7), none, 0, 0⟩] false)
    (.seq
     (.region [⟨(some 8), .mov (.t 5), none, 0, 0⟩,
       ⟨(some 9), .bin .neq (.t 8) (.c (.d (.sc (.int .i64 0)))), none, 0, 0⟩] false)
     (.cond (.t 9)
      (.seq
       (.region [⟨(some 10), .mov (.t 5), none, 0, 0⟩,
         ⟨(some 4), .mov (.t 10), none, 0, 0⟩] false)
       .ret)
      .skip)))
   (.seq
    (.seq
     (.region [⟨(some 11), .mov (.t 1), none, 0, 0⟩,
       ⟨(some 12), .bin .lss (.t 11) (.c (.d (.sc (.int .i64 0)))), none, 0, 0⟩,
       ⟨(some 13), .mov (.t 12), none, 0, 0⟩,
       ⟨(some 14), .mov (.t 1), (some (13, false)), 0, 0⟩,
       ⟨(some 15), .mov (.t 0), (some (13, false)), 0, 0⟩,
       ⟨(some 16), .len (.t 15), (some (13, false)), 0, 0⟩,
       ⟨(some 17), .bin .geq (.t 14) (.t 16), (some (13, false)), 0, 0⟩,
       ⟨(some 18), .pick (.t 13) (.c (.d (.sc (.bool true)))) (.t 17), none, 0, 0⟩] false)
     (.cond (.t 18)
      (.seq
       (.region [⟨(some 4), .mov (.c (.d (.sc (.int .i64 2)))), none, 0, 0⟩] false)
       .ret)
      .skip))
    (.seq
     (.region [⟨(some 4), .mov (.c (.d (.sc (.int .i64 0)))), none, 0, 0⟩] false)
     .ret)))), false⟩
/-- wreckage/routine.Block -/
def t19 : AFn := ⟨3, 34, [.t 6, .t 7],
 (.seq
  (.region [⟨(some 6), .mov (.c (.own [] .full)), none, 0, 0⟩,
    ⟨(some 7), .mov (.c (.d (.sc (.int .i64 0)))), none, 0, 0⟩] false)
  (.seq
   (.seq
    (.region [⟨(some 10), .mov (.t 0), none, 0, 0⟩,
      ⟨(some 11), .mov (.t 1), none, 0, 0⟩,
      ⟨(some 12), .call 36 [(.t 10), (.t 11)], none, 0, 0⟩,
      ⟨(some 8), .mov (.t 12), none, 0, 0⟩] false)
    (.seq
     (.region [⟨(some 13), .mov (.t 8), none, 0, 0⟩,
       ⟨(some 14), .bin .neq (.t 13) (.c (.d (.sc (.int .i64 0)))), none, 0, 0⟩] false)
     (.cond (.t 14)
      (.seq
       (.region [⟨(some 15), .mov (.t 8), none, 0, 0⟩,
         ⟨(some 6), .mov (.c (.own [] .full)), none, 0, 0⟩,
         ⟨(some 7), .mov (.t 15), none, 0, 0⟩] false)
       .ret)
      .skip)))
   (.seq
    (.seq
     (.region [⟨(some 16), .mov (.t 0), none, 0, 0⟩,
       ⟨(some 17), .mov (.t 1), none, 0, 0⟩,
       ⟨(some 18), .indexAddr 6 (.t 16) (.t 17), none, 0, 0⟩,
       ⟨(some 19), .fieldAddr 0 (.t 18), none, 0, 0⟩,
       ⟨(some 20), .load 1 false (.t 19), none, 0, 0⟩,
       ⟨(some 21), .bin .neq (.t 20) (.c (.d (.sc (.int .u8 1)))), none, 0, 0⟩] false)
     (.cond (.t 21)
      (.seq
       (.region [⟨(some 6), .mov (.c (.own [] .full)), none, 0, 0⟩,
         ⟨(some 7), .mov (.c (.d (.sc (.int .i64 36)))), none, 0, 0⟩] false)
       .ret)
      .skip))
    (.seq
     (.region [⟨(some 22), .mov (.t 0), none, 0, 0⟩,
       ⟨(some 23), .clone 6 48 (.t 22), none, 0, 1⟩,
       ⟨(some 9), .mov (.t 23), none, 0, 1⟩] false)
     (.seq
      (.region [⟨(some 24), .mov (.t 9), none, 0, 1⟩,
        ⟨(some 25), .mov (.t 1), none, 0, 0⟩,
        ⟨(some 26), .mov (.t 9), none, 0, 1⟩,
        ⟨(some 27), .mov (.t 1), none, 0, 0⟩,
        ⟨(some 28), .mov (.t 2), none, 0, 0⟩,
        ⟨(some 29), .indexAddr 6 (.t 24) (.t 25), none, 0, 0⟩,
        ⟨(some 30), .fieldAddr 0 (.t 29), none, 0, 0⟩,
        ⟨none, .store 1 (.t 30) (.c (.d (.sc (.int .u8 2)))), none, 0, 0⟩,
        ⟨(some 31), .indexAddr 6 (.t 26) (.t 27), none, 0, 0⟩,
        ⟨(some 32), .fieldAddr 5 (.t 31), none, 0, 0⟩,
        ⟨none, .store 1 (.t 32) (.t 28), none, 0, 0⟩] false)
      (.seq
       (.region [⟨(some 33), .mov (.t 9), none, 0, 0⟩,
         ⟨(some 6), .mov (.t 33), none, 0, 0⟩,
         ⟨(some 7), .mov (.c (.d (.sc (.int .i64 0)))), none, 0, 0⟩] false)
       .ret)))))), false⟩
/-- wreckage/wreckageref19.Same -/
def t24 : AFn := ⟨2, 26, [.t 4],
 (.seq
  (.region [⟨(some 4), .mov (.c (.d (.sc (.bool false)))), none, 0, 0⟩] false)
  (.seq
   (.seq
    (.region [⟨(some 6), .mov (.t 0), none, 0, 0⟩,
      ⟨(some 7), .len (.t 6), none, 0, 0⟩,
      ⟨(some 8), .mov (.t 1), none, 0, 0⟩,
      ⟨(some 9), .len (.t 8), none, 0, 0⟩,
      ⟨(some 10), .bin .neq (.t 7) (.t 9), none, 0, 0⟩] false)
    (.cond (.t 10)
     (.seq
      (.region [⟨(some 4), .mov (.c (.d (.sc (.bool false)))), none, 0, 0⟩] false)
      .ret)
     .skip))
   (.seq
    (.seq
     (.region [⟨(some 5), .mov (.c (.d (.sc (.int .i64 0)))), none, 0, 0⟩] false)
     (.block 0
      (.loop
       (.seq
        (.seq
         (.region [⟨(some 11), .mov (.t 5), none, 0, 0⟩,
           ⟨(some 12), .mov (.t 0), none, 0, 0⟩,
           ⟨(some 13), .len (.t 12), none, 0, 0⟩,
           ⟨(some 14), .bin .lss (.t 11) (.t 13), none, 0, 0⟩] false)
         (.cond (.t 14)
          .skip
          (.exit 0)))
        (.seq
         (.block 1
          (.seq
           (.region [⟨(some 17), .mov (.t 0), none, 0, 0⟩,
             ⟨(some 18), .mov (.t 5), none, 0, 0⟩,
             ⟨(some 19), .indexAddr 6 (.t 17) (.t 18), none, 3, 0⟩,
             ⟨(some 20), .load 6 true (.t 19), none, 7, 0⟩,
             ⟨(some 21), .mov (.t 1), none, 0, 0⟩,
             ⟨(some 22), .mov (.t 5), none, 0, 0⟩,
             ⟨(some 23), .indexAddr 6 (.t 21) (.t 22), none, 48, 0⟩,
             ⟨(some 24), .load 6 true (.t 23), none, 112, 0⟩,
             ⟨(some 25), .eqA true 6 [(0, 1), (1, 1), (2, 1), (3, 1), (4, 1), (5, 1)] (.t 20) (.t 24), none, 255, 0⟩] true)
           (.cond (.t 25)
            (.seq
             (.region [⟨(some 4), .mov (.c (.d (.sc (.bool false)))), none, 0, 0⟩] false)
             .ret)
            .skip)))
         (.region [⟨(some 15), .mov (.t 5), none, 0, 0⟩,
           ⟨(some 16), .bin .add (.t 15) (.c (.d (.sc (.int .i64 1)))), none, 0, 0⟩,
           ⟨(some 5), .mov (.t 16), none, 0, 0⟩] false))))))
    (.seq
     (.region [⟨(some 4), .mov (.c (.d (.sc (.bool true)))), none, 0, 0⟩] false)
     .ret)))), false⟩
/-- wreckage/wreckagelaw19.RoutineBack -/
def t6 : AFn := ⟨3, 167, [.t 6],
 (.seq
  (.region [⟨(some 6), .mov (.c (.d (.sc (.bool false)))), none, 0, 0⟩] false)
  (.seq
   (.region [⟨(some 22), .call 16 [], none, 0, 0⟩,
     ⟨(some 7), .mov (.t 22), none, 0, 0⟩] false)
   (.seq
    (.seq
     (.region [⟨(some 23), .mov (.t 0), none, 0, 0⟩,
       ⟨(some 24), .call 14 [(.t 23)], none, 0, 0⟩,
       ⟨(some 25), .bin .neq (.t 24) (.c (.d (.sc (.int .i64 0)))), none, 0, 0⟩,
       ⟨(some 26), .mov (.t 25), none, 0, 0⟩,
       ⟨(some 27), .mov (.t 1), (some (26, false)), 0, 0⟩,
       ⟨(some 28), .bin .lss (.t 27) (.c (.d (.sc (.int .i64 0)))), (some (26, false)), 0, 0⟩,
       ⟨(some 29), .pick (.t 26) (.c (.d (.sc (.bool true)))) (.t 28), none, 0, 0⟩,
       ⟨(some 30), .mov (.t 29), none, 0, 0⟩,
       ⟨(some 31), .mov (.t 1), (some (30, false)), 0, 0⟩,
       ⟨(some 32), .mov (.t 0), (some (30, false)), 0, 0⟩,
       ⟨(some 33), .len (.t 32), (some (30, false)), 0, 0⟩,
       ⟨(some 34), .bin .geq (.t 31) (.t 33), (some (30, false)), 0, 0⟩,
       ⟨(some 35), .pick (.t 30) (.c (.d (.sc (.bool true)))) (.t 34), none, 0, 0⟩,
       ⟨(some 36), .mov (.t 35), none, 0, 0⟩,
       ⟨(some 37), .mov (.t 7), (some (36, false)), 0, 0⟩,
       ⟨(some 38), .un .not (.t 37), (some (36, false)), 0, 0⟩,
       ⟨(some 39), .pick (.t 36) (.c (.d (.sc (.bool true)))) (.t 38), none, 0, 0⟩] false)
     (.cond (.t 39)
      (.seq
       (.region [⟨(some 40), .mov (.t 7), none, 0, 0⟩,
         ⟨(some 6), .mov (.t 40), none, 0, 0⟩] false)
       .ret)
      .skip))
    (.seq
     (.region [⟨(some 8), .mov (.c (.own [] .full)), none, 0, 0⟩] false)
     (.seq
      (.seq
       (.region [⟨(some 9), .mov (.c (.d (.sc (.int .i64 0)))), none, 0, 0⟩] false)
       (.block 0
        (.loop
         (.seq
          (.seq
           (.region [⟨(some 41), .mov (.t 9), none, 0, 0⟩,
             ⟨(some 42), .mov (.t 0), none, 0, 0⟩,
             ⟨(some 43), .len (.t 42), none, 0, 0⟩,
             ⟨(some 44), .bin .lss (.t 41) (.t 43), none, 0, 0⟩] false)
           (.cond (.t 44)
            .skip
            (.exit 0)))
          (.seq
           (.block 1
            (.seq
             (.region [⟨(some 47), .mov (.t 0), none, 0, 0⟩,
               ⟨(some 48), .mov (.t 9), none, 0, 0⟩,
               ⟨(some 49), .indexAddr 6 (.t 47) (.t 48), none, 0, 0⟩,
               ⟨(some 50), .fieldAddr 0 (.t 49), none, 0, 0⟩,
               ⟨(some 51), .load 1 false (.t 50), none, 0, 0⟩,
               ⟨(some 52), .bin .eql (.t 51) (.c (.d (.sc (.int .u8 2)))), none, 0, 0⟩,
               ⟨(some 53), .mov (.t 52), none, 0, 0⟩,
               ⟨(some 54), .mov (.t 0), (some (53, true)), 0, 0⟩,
               ⟨(some 55), .mov (.t 9), (some (53, true)), 0, 0⟩,
               ⟨(some 56), .indexAddr 6 (.t 54) (.t 55), (some (53, true)), 0, 0⟩,
               ⟨(some 57), .fieldAddr 5 (.t 56), (some (53, true)), 0, 0⟩,
               ⟨(some 58), .load 1 false (.t 57), (some (53, true)), 0, 0⟩,
               ⟨(some 59), .mov (.t 2), (some (53, true)), 0, 0⟩,
               ⟨(some 60), .bin .eql (.t 58) (.t 59), (some (53, true)), 0, 0⟩,
               ⟨(some 61), .pick (.t 53) (.t 60) (.c (.d (.sc (.bool false)))), none, 0, 0⟩] false)
             (.cond (.t 61)
              (.region [⟨(some 62), .mov (.t 8), none, 0, 0⟩,
                ⟨(some 63), .mov (.t 9), none, 0, 0⟩,
                ⟨(some 64), .buildSlice 1 1 [(.sc (.int .i64 0))] [(0, (.t 63))], none, 0, 0⟩,
                ⟨(some 65), .append 1 8 (.t 62) (.t 64), none, 0, 0⟩,
                ⟨(some 8), .mov (.t 65), none, 0, 0⟩] false)
              .skip)))
           (.region [⟨(some 45), .mov (.t 9), none, 0, 0⟩,
             ⟨(some 46), .bin .add (.t 45) (.c (.d (.sc (.int .i64 1)))), none, 0, 0⟩,
             ⟨(some 9), .mov (.t 46), none, 0, 0⟩] false))))))
      (.seq
       (.region [⟨(some 67), .mov (.t 0), none, 0, 0⟩,
         ⟨(some 68), .mov (.t 1), none, 0, 0⟩,
         ⟨(some 69), .mov (.t 2), none, 0, 0⟩,
         ⟨(some 70), .call 19 [(.t 67), (.t 68), (.t 69)], none, 0, 0⟩,
         ⟨(some 66), .mov (.t 70), none, 0, 0⟩,
         ⟨(some 71), .extract (.t 66) 0, none, 0, 0⟩,
         ⟨(some 72), .extract (.t 66) 1, none, 0, 0⟩,
         ⟨(some 10), .mov (.t 71), none, 0, 0⟩,
         ⟨(some 11), .mov (.t 72), none, 0, 0⟩] false)
       (.seq
        (.seq
         (.region [⟨(some 73), .mov (.t 11), none, 0, 0⟩,
           ⟨(some 74), .bin .eql (.t 73) (.c (.d (.sc (.int .i64 0)))), none, 0, 0⟩,
           ⟨(some 75), .mov (.t 0), none, 0, 0⟩,
           ⟨(some 76), .mov (.t 1), none, 0, 0⟩,
           ⟨(some 77), .indexAddr 6 (.t 75) (.t 76), none, 0, 0⟩,
           ⟨(some 78), .fieldAddr 0 (.t 77), none, 0, 0⟩,
           ⟨(some 79), .load 1 false (.t 78), none, 0, 0⟩,
           ⟨(some 80), .bin .eql (.t 79) (.c (.d (.sc (.int .u8 1)))), none, 0, 0⟩,
           ⟨(some 81), .eqb true (.t 74) (.t 80), none, 0, 0⟩,
           ⟨(some 82), .mov (.t 81), none, 0, 0⟩,
           ⟨(some 83), .mov (.t 11), (some (82, false)), 0, 0⟩,
           ⟨(some 84), .bin .neq (.t 83) (.c (.d (.sc (.int .i64 0)))), (some (82, false)), 0, 0⟩,
           ⟨(some 85), .mov (.t 84), (some (82, false)), 0, 0⟩,
           ⟨(some 86), .mov (.t 11), (some (85, true)), 0, 0⟩,
           ⟨(some 87), .bin .neq (.t 86) (.c (.d (.sc (.int .i64 36)))), (some (85, true)), 0, 0⟩,
           ⟨(some 88), .pick (.t 85) (.t 87) (.c (.d (.sc (.bool false)))), (some (82, false)), 0, 0⟩,
           ⟨(some 89), .pick (.t 82) (.c (.d (.sc (.bool true)))) (.t 88), none, 0, 0⟩] false)
         (.cond (.t 89)
          (.seq
           (.region [⟨(some 6), .mov (.c (.d (.sc (.bool false)))), none, 0, 0⟩] false)
           .ret)
          .skip))
        (.seq
         (.seq
          (.region [⟨(some 90), .mov (.t 11), none, 0, 0⟩,
            ⟨(some 91), .bin .eql (.t 90) (.c (.d (.sc (.int .i64 0)))), none, 0, 0⟩,
            ⟨(some 92), .mov (.t 91), none, 0, 0⟩,
            ⟨(some 93), .mov (.t 8), (some (92, true)), 0, 0⟩,
            ⟨(some 94), .len (.t 93), (some (92, true)), 0, 0⟩,
            ⟨(some 95), .bin .eql (.t 94) (.c (.d (.sc (.int .i64 0)))), (some (92, true)), 0, 0⟩,
            ⟨(some 96), .pick (.t 92) (.t 95) (.c (.d (.sc (.bool false)))), none, 0, 0⟩] false)
          (.cond (.t 96)
           (.seq
            (.region [⟨(some 98), .mov (.t 10), none, 0, 0⟩,
              ⟨(some 99), .mov (.t 2), none, 0, 0⟩,
              ⟨(some 100), .call 17 [(.t 98), (.t 99)], none, 0, 0⟩,
              ⟨(some 97), .mov (.t 100), none, 0, 0⟩,
              ⟨(some 101), .extract (.t 97) 0, none, 0, 0⟩,
              ⟨(some 102), .extract (.t 97) 1, none, 0, 0⟩,
              ⟨(some 103), .extract (.t 97) 2, none, 0, 0⟩,
              ⟨(some 12), .mov (.t 101), none, 0, 0⟩,
              ⟨(some 13), .mov (.t 102), none, 0, 0⟩,
              ⟨(some 14), .mov (.t 103), none, 0, 0⟩] false)
            (.seq
             (.region [⟨(some 104), .mov (.t 14), none, 0, 0⟩,
               ⟨(some 105), .bin .neq (.t 104) (.c (.d (.sc (.int .i64 0)))), none, 0, 0⟩,
               ⟨(some 106), .mov (.t 105), none, 0, 0⟩,
               ⟨(some 107), .mov (.t 13), (some (106, false)), 0, 0⟩,
               ⟨(some 108), .mov (.t 1), (some (106, false)), 0, 0⟩,
               ⟨(some 109), .bin .neq (.t 107) (.t 108), (some (106, false)), 0, 0⟩,
               ⟨(some 110), .pick (.t 106) (.c (.d (.sc (.bool true)))) (.t 109), none, 0, 0⟩,
               ⟨(some 111), .mov (.t 110), none, 0, 0⟩,
               ⟨(some 112), .mov (.t 12), (some (111, false)), 0, 0⟩,
               ⟨(some 113), .mov (.t 0), (some (111, false)), 0, 0⟩,
               ⟨(some 114), .call 24 [(.t 112), (.t 113)], (some (111, false)), 0, 0⟩,
               ⟨(some 115), .un .not (.t 114), (some (111, false)), 0, 0⟩,
               ⟨(some 116), .pick (.t 111) (.c (.d (.sc (.bool true)))) (.t 115), none, 0, 0⟩] false)
             (.cond (.t 116)
              (.seq
               (.region [⟨(some 6), .mov (.c (.d (.sc (.bool false)))), none, 0, 0⟩] false)
               .ret)
              .skip)))
           .skip))
         (.seq
          (.seq
           (.region [⟨(some 15), .mov (.c (.d (.sc (.int .i64 0)))), none, 0, 0⟩] false)
           (.block 2
            (.loop
             (.seq
              (.seq
               (.region [⟨(some 117), .mov (.t 15), none, 0, 0⟩,
                 ⟨(some 118), .mov (.t 8), none, 0, 0⟩,
                 ⟨(some 119), .len (.t 118), none, 0, 0⟩,
                 ⟨(some 120), .bin .lss (.t 117) (.t 119), none, 0, 0⟩] false)
               (.cond (.t 120)
                .skip
                (.exit 2)))
              (.seq
               (.block 3
                (.seq
                 (.region [⟨(some 124), .mov (.t 0), none, 0, 0⟩,
                   ⟨(some 125), .mov (.t 2), none, 0, 0⟩,
                   ⟨(some 126), .call 17 [(.t 124), (.t 125)], none, 0, 0⟩,
                   ⟨(some 123), .mov (.t 126), none, 0, 0⟩,
                   ⟨(some 127), .extract (.t 123) 0, none, 0, 0⟩,
                   ⟨(some 128), .extract (.t 123) 1, none, 0, 0⟩,
                   ⟨(some 129), .extract (.t 123) 2, none, 0, 0⟩,
                   ⟨(some 16), .mov (.t 127), none, 0, 0⟩,
                   ⟨(some 17), .mov (.t 128), none, 0, 0⟩,
                   ⟨(some 18), .mov (.t 129), none, 0, 0⟩] false)
                 (.seq
                  (.seq
                   (.region [⟨(some 130), .mov (.t 18), none, 0, 0⟩,
                     ⟨(some 131), .bin .neq (.t 130) (.c (.d (.sc (.int .i64 0)))), none, 0, 0⟩,
                     ⟨(some 132), .mov (.t 131), none, 0, 0⟩,
                     ⟨(some 133), .mov (.t 17), (some (132, false)), 0, 0⟩,
                     ⟨(some 134), .mov (.t 8), (some (132, false)), 0, 0⟩,
                     ⟨(some 135), .mov (.t 15), (some (132, false)), 0, 0⟩,
                     ⟨(some 136), .indexAddr 1 (.t 134) (.t 135), (some (132, false)), 0, 0⟩,
                     ⟨(some 137), .load 1 false (.t 136), (some (132, false)), 0, 0⟩,
                     ⟨(some 138), .bin .neq (.t 133) (.t 137), (some (132, false)), 0, 0⟩,
                     ⟨(some 139), .pick (.t 132) (.c (.d (.sc (.bool true)))) (.t 138), none, 0, 0⟩,
                     ⟨(some 140), .mov (.t 139), none, 0, 0⟩,
                     ⟨(some 141), .mov (.t 16), (some (140, false)), 0, 0⟩,
                     ⟨(some 142), .call 14 [(.t 141)], (some (140, false)), 0, 0⟩,
                     ⟨(some 143), .bin .neq (.t 142) (.c (.d (.sc (.int .i64 0)))), (some (140, false)), 0, 0⟩,
                     ⟨(some 144), .pick (.t 140) (.c (.d (.sc (.bool true)))) (.t 143), none, 0, 0⟩] false)
                   (.cond (.t 144)
                    (.seq
                     (.region [⟨(some 6), .mov (.c (.d (.sc (.bool false)))), none, 0, 0⟩] false)
                     .ret)
                    .skip))
                  (.region [⟨(some 145), .mov (.t 16), none, 0, 0⟩,
                    ⟨(some 0), .mov (.t 145), none, 0, 0⟩] false))))
               (.region [⟨(some 121), .mov (.t 15), none, 0, 0⟩,
                 ⟨(some 122), .bin .add (.t 121) (.c (.d (.sc (.int .i64 1)))), none, 0, 0⟩,
                 ⟨(some 15), .mov (.t 122), none, 0, 0⟩] false))))))
          (.seq
           (.region [⟨(some 147), .mov (.t 0), none, 0, 0⟩,
             ⟨(some 148), .mov (.t 2), none, 0, 0⟩,
             ⟨(some 149), .call 17 [(.t 147), (.t 148)], none, 0, 0⟩,
             ⟨(some 146), .mov (.t 149), none, 0, 0⟩,
             ⟨(some 150), .extract (.t 146) 0, none, 0, 0⟩,
             ⟨(some 151), .extract (.t 146) 1, none, 0, 0⟩,
             ⟨(some 152), .extract (.t 146) 2, none, 0, 0⟩,
             ⟨(some 19), .mov (.t 150), none, 0, 0⟩,
             ⟨(some 20), .mov (.t 151), none, 0, 0⟩,
             ⟨(some 21), .mov (.t 152), none, 0, 0⟩] false)
           (.seq
            (.region [⟨(some 153), .mov (.t 7), none, 0, 0⟩,
              ⟨(some 154), .mov (.t 153), none, 0, 0⟩,
              ⟨(some 155), .mov (.t 21), (some (154, true)), 0, 0⟩,
              ⟨(some 156), .bin .eql (.t 155) (.c (.d (.sc (.int .i64 0)))), (some (154, true)), 0, 0⟩,
              ⟨(some 157), .pick (.t 154) (.t 156) (.c (.d (.sc (.bool false)))), none, 0, 0⟩,
              ⟨(some 158), .mov (.t 157), none, 0, 0⟩,
              ⟨(some 159), .mov (.t 20), (some (158, true)), 0, 0⟩,
              ⟨(some 160), .bin .eql (.t 159) (.c (.d (.sc (.int .i64 (-1))))), (some (158, true)), 0, 0⟩,
              ⟨(some 161), .pick (.t 158) (.t 160) (.c (.d (.sc (.bool false)))), none, 0, 0⟩,
              ⟨(some 162), .mov (.t 161), none, 0, 0⟩,
              ⟨(some 163), .mov (.t 19), (some (162, true)), 0, 0⟩,
              ⟨(some 164), .mov (.t 0), (some (162, true)), 0, 0⟩,
              ⟨(some 165), .call 24 [(.t 163), (.t 164)], (some (162, true)), 0, 0⟩,
              ⟨(some 166), .pick (.t 162) (.t 165) (.c (.d (.sc (.bool false)))), none, 0, 0⟩,
              ⟨(some 6), .mov (.t 166), none, 0, 0⟩] false)
            .ret))))))))))), false⟩
/-- wreckage/routine.End -/
def t22 : AFn := ⟨2, 29, [.t 4, .t 5],
 (.seq
  (.region [⟨(some 4), .mov (.c (.own [] .full)), none, 0, 0⟩,
    ⟨(some 5), .mov (.c (.d (.sc (.int .i64 0)))), none, 0, 0⟩] false)
  (.seq
   (.seq
    (.region [⟨(some 8), .mov (.t 0), none, 0, 0⟩,
      ⟨(some 9), .mov (.t 1), none, 0, 0⟩,
      ⟨(some 10), .call 36 [(.t 8), (.t 9)], none, 0, 0⟩,
      ⟨(some 6), .mov (.t 10), none, 0, 0⟩] false)
    (.seq
     (.region [⟨(some 11), .mov (.t 6), none, 0, 0⟩,
       ⟨(some 12), .bin .neq (.t 11) (.c (.d (.sc (.int .i64 0)))), none, 0, 0⟩] false)
     (.cond (.t 12)
      (.seq
       (.region [⟨(some 13), .mov (.t 6), none, 0, 0⟩,
         ⟨(some 4), .mov (.c (.own [] .full)), none, 0, 0⟩,
         ⟨(some 5), .mov (.t 13), none, 0, 0⟩] false)
       .ret)
      .skip)))
   (.seq
    (.seq
     (.region [⟨(some 14), .mov (.t 0), none, 0, 0⟩,
       ⟨(some 15), .mov (.t 1), none, 0, 0⟩,
       ⟨(some 16), .indexAddr 6 (.t 14) (.t 15), none, 0, 0⟩,
       ⟨(some 17), .fieldAddr 0 (.t 16), none, 0, 0⟩,
       ⟨(some 18), .load 1 false (.t 17), none, 0, 0⟩,
       ⟨(some 19), .bin .eql (.t 18) (.c (.d (.sc (.int .u8 3)))), none, 0, 0⟩] false)
     (.cond (.t 19)
      (.seq
       (.region [⟨(some 4), .mov (.c (.own [] .full)), none, 0, 0⟩,
         ⟨(some 5), .mov (.c (.d (.sc (.int .i64 36)))), none, 0, 0⟩] false)
       .ret)
      .skip))
    (.seq
     (.region [⟨(some 20), .mov (.t 0), none, 0, 0⟩,
       ⟨(some 21), .clone 6 48 (.t 20), none, 0, 1⟩,
       ⟨(some 7), .mov (.t 21), none, 0, 1⟩] false)
     (.seq
      (.region [⟨(some 22), .mov (.t 7), none, 0, 1⟩,
        ⟨(some 23), .mov (.t 1), none, 0, 0⟩,
        ⟨(some 24), .mov (.t 1), none, 0, 0⟩,
        ⟨(some 25), .call 26 [(.t 24)], none, 0, 0⟩,
        ⟨(some 26), .build [(.d (.sc (.int .u8 0))), (.d (.sc (.int .u64 0))), (.d (.sc (.int .u64 0))), (.d (.sc (.int .u64 0))), (.d (.sc (.int .u64 0))), (.d (.sc (.int .i64 0)))] [(0, 1, (.c (.d (.sc (.int .u8 3))))), (2, 1, (.t 25))], none, 0, 0⟩,
        ⟨(some 27), .indexAddr 6 (.t 22) (.t 23), none, 0, 0⟩,
        ⟨none, .store 6 (.t 27) (.t 26), none, 0, 0⟩] false)
      (.seq
       (.region [⟨(some 28), .mov (.t 7), none, 0, 0⟩,
         ⟨(some 4), .mov (.t 28), none, 0, 0⟩,
         ⟨(some 5), .mov (.c (.d (.sc (.int .i64 0)))), none, 0, 0⟩] false)
       .ret)))))), false⟩
/-- wreckage/wreckagelaw19.RoutineEnds -/
def t7 : AFn := ⟨4, 229, [.t 8],
 (.seq
  (.region [⟨(some 8), .mov (.c (.d (.sc (.bool false)))), none, 0, 0⟩] false)
  (.seq
   (.region [⟨(some 23), .call 16 [], none, 0, 0⟩,
     ⟨(some 9), .mov (.t 23), none, 0, 0⟩] false)
   (.seq
    (.seq
     (.region [⟨(some 24), .mov (.t 0), none, 0, 0⟩,
       ⟨(some 25), .call 14 [(.t 24)], none, 0, 0⟩,
       ⟨(some 26), .bin .neq (.t 25) (.c (.d (.sc (.int .i64 0)))), none, 0, 0⟩,
       ⟨(some 27), .mov (.t 26), none, 0, 0⟩,
       ⟨(some 28), .mov (.t 1), (some (27, false)), 0, 0⟩,
       ⟨(some 29), .bin .lss (.t 28) (.c (.d (.sc (.int .i64 0)))), (some (27, false)), 0, 0⟩,
       ⟨(some 30), .pick (.t 27) (.c (.d (.sc (.bool true)))) (.t 29), none, 0, 0⟩,
       ⟨(some 31), .mov (.t 30), none, 0, 0⟩,
       ⟨(some 32), .mov (.t 1), (some (31, false)), 0, 0⟩,
       ⟨(some 33), .mov (.t 0), (some (31, false)), 0, 0⟩,
       ⟨(some 34), .len (.t 33), (some (31, false)), 0, 0⟩,
       ⟨(some 35), .bin .geq (.t 32) (.t 34), (some (31, false)), 0, 0⟩,
       ⟨(some 36), .pick (.t 31) (.c (.d (.sc (.bool true)))) (.t 35), none, 0, 0⟩,
       ⟨(some 37), .mov (.t 36), none, 0, 0⟩,
       ⟨(some 38), .mov (.t 2), (some (37, false)), 0, 0⟩,
       ⟨(some 39), .bin .lss (.t 38) (.c (.d (.sc (.int .i64 0)))), (some (37, false)), 0, 0⟩,
       ⟨(some 40), .pick (.t 37) (.c (.d (.sc (.bool true)))) (.t 39), none, 0, 0⟩,
       ⟨(some 41), .mov (.t 40), none, 0, 0⟩,
       ⟨(some 42), .mov (.t 2), (some (41, false)), 0, 0⟩,
       ⟨(some 43), .mov (.t 0), (some (41, false)), 0, 0⟩,
       ⟨(some 44), .len (.t 43), (some (41, false)), 0, 0⟩,
       ⟨(some 45), .bin .geq (.t 42) (.t 44), (some (41, false)), 0, 0⟩,
       ⟨(some 46), .pick (.t 41) (.c (.d (.sc (.bool true)))) (.t 45), none, 0, 0⟩,
       ⟨(some 47), .mov (.t 46), none, 0, 0⟩,
       ⟨(some 48), .mov (.t 9), (some (47, false)), 0, 0⟩,
       ⟨(some 49), .un .not (.t 48), (some (47, false)), 0, 0⟩,
       ⟨(some 50), .pick (.t 47) (.c (.d (.sc (.bool true)))) (.t 49), none, 0, 0⟩] false)
     (.cond (.t 50)
      (.seq
       (.region [⟨(some 51), .mov (.t 9), none, 0, 0⟩,
         ⟨(some 8), .mov (.t 51), none, 0, 0⟩] false)
       .ret)
      .skip))
    (.seq
     (.region [⟨(some 53), .mov (.t 0), none, 0, 0⟩,
       ⟨(some 54), .mov (.t 1), none, 0, 0⟩,
       ⟨(some 55), .call 22 [(.t 53), (.t 54)], none, 0, 0⟩,
       ⟨(some 52), .mov (.t 55), none, 0, 0⟩,
       ⟨(some 56), .extract (.t 52) 0, none, 0, 0⟩,
       ⟨(some 57), .extract (.t 52) 1, none, 0, 0⟩,
       ⟨(some 10), .mov (.t 56), none, 0, 0⟩,
       ⟨(some 11), .mov (.t 57), none, 0, 0⟩] false)
     (.seq
      (.seq
       (.region [⟨(some 58), .mov (.t 0), none, 0, 0⟩,
         ⟨(some 59), .mov (.t 1), none, 0, 0⟩,
         ⟨(some 60), .indexAddr 6 (.t 58) (.t 59), none, 0, 0⟩,
         ⟨(some 61), .fieldAddr 0 (.t 60), none, 0, 0⟩,
         ⟨(some 62), .load 1 false (.t 61), none, 0, 0⟩,
         ⟨(some 63), .bin .eql (.t 62) (.c (.d (.sc (.int .u8 3)))), none, 0, 0⟩] false)
       (.cond (.t 63)
        (.seq
         (.region [⟨(some 64), .mov (.t 9), none, 0, 0⟩,
           ⟨(some 65), .mov (.t 64), none, 0, 0⟩,
           ⟨(some 66), .mov (.t 11), (some (65, true)), 0, 0⟩,
           ⟨(some 67), .bin .eql (.t 66) (.c (.d (.sc (.int .i64 36)))), (some (65, true)), 0, 0⟩,
           ⟨(some 68), .pick (.t 65) (.t 67) (.c (.d (.sc (.bool false)))), none, 0, 0⟩,
           ⟨(some 8), .mov (.t 68), none, 0, 0⟩] false)
         .ret)
        .skip))
      (.seq
       (.seq
        (.region [⟨(some 69), .mov (.t 11), none, 0, 0⟩,
          ⟨(some 70), .bin .neq (.t 69) (.c (.d (.sc (.int .i64 0)))), none, 0, 0⟩,
          ⟨(some 71), .mov (.t 70), none, 0, 0⟩,
          ⟨(some 72), .mov (.t 10), (some (71, false)), 0, 0⟩,
          ⟨(some 73), .len (.t 72), (some (71, false)), 0, 0⟩,
          ⟨(some 74), .mov (.t 0), (some (71, false)), 0, 0⟩,
          ⟨(some 75), .len (.t 74), (some (71, false)), 0, 0⟩,
          ⟨(some 76), .bin .neq (.t 73) (.t 75), (some (71, false)), 0, 0⟩,
          ⟨(some 77), .pick (.t 71) (.c (.d (.sc (.bool true)))) (.t 76), none, 0, 0⟩,
          ⟨(some 78), .mov (.t 77), none, 0, 0⟩,
          ⟨(some 79), .mov (.t 10), (some (78, false)), 0, 0⟩,
          ⟨(some 80), .call 14 [(.t 79)], (some (78, false)), 0, 0⟩,
          ⟨(some 81), .bin .neq (.t 80) (.c (.d (.sc (.int .i64 0)))), (some (78, false)), 0, 0⟩,
          ⟨(some 82), .pick (.t 78) (.c (.d (.sc (.bool true)))) (.t 81), none, 0, 0⟩,
          ⟨(some 83), .mov (.t 82), none, 0, 0⟩,
          ⟨(some 84), .mov (.t 10), (some (83, false)), 0, 0⟩,
          ⟨(some 85), .mov (.t 1), (some (83, false)), 0, 0⟩,
          ⟨(some 86), .indexAddr 6 (.t 84) (.t 85), (some (83, false)), 0, 0⟩,
          ⟨(some 87), .fieldAddr 0 (.t 86), (some (83, false)), 0, 0⟩,
          ⟨(some 88), .load 1 false (.t 87), (some (83, false)), 0, 0⟩,
          ⟨(some 89), .bin .neq (.t 88) (.c (.d (.sc (.int .u8 3)))), (some (83, false)), 0, 0⟩,
          ⟨(some 90), .pick (.t 83) (.c (.d (.sc (.bool true)))) (.t 89), none, 0, 0⟩] false)
        (.cond (.t 90)
         (.seq
          (.region [⟨(some 8), .mov (.c (.d (.sc (.bool false)))), none, 0, 0⟩] false)
          .ret)
         .skip))
       (.seq
        (.seq
         (.region [⟨(some 12), .mov (.c (.d (.sc (.int .i64 0)))), none, 0, 0⟩] false)
         (.block 0
          (.loop
           (.seq
            (.seq
             (.region [⟨(some 91), .mov (.t 12), none, 0, 0⟩,
               ⟨(some 92), .mov (.t 0), none, 0, 0⟩,
               ⟨(some 93), .len (.t 92), none, 0, 0⟩,
               ⟨(some 94), .bin .lss (.t 91) (.t 93), none, 0, 0⟩] false)
             (.cond (.t 94)
              .skip
              (.exit 0)))
            (.seq
             (.block 1
              (.seq
               (.region [⟨(some 97), .mov (.t 12), none, 0, 0⟩,
                 ⟨(some 98), .mov (.t 1), none, 0, 0⟩,
                 ⟨(some 99), .bin .neq (.t 97) (.t 98), none, 3, 0⟩,
                 ⟨(some 100), .mov (.t 99), none, 7, 0⟩,
                 ⟨(some 101), .mov (.t 10), (some (100, true)), 15, 0⟩,
                 ⟨(some 102), .mov (.t 12), (some (100, true)), 15, 0⟩,
                 ⟨(some 103), .indexAddr 6 (.t 101) (.t 102), (some (100, true)), 63, 0⟩,
                 ⟨(some 104), .load 6 true (.t 103), (some (100, true)), 127, 0⟩,
                 ⟨(some 105), .mov (.t 0), (some (100, true)), 15, 0⟩,
                 ⟨(some 106), .mov (.t 12), (some (100, true)), 15, 0⟩,
                 ⟨(some 107), .indexAddr 6 (.t 105) (.t 106), (some (100, true)), 783, 0⟩,
                 ⟨(some 108), .load 6 true (.t 107), (some (100, true)), 1807, 0⟩,
                 ⟨(some 109), .eqA true 6 [(0, 1), (1, 1), (2, 1), (3, 1), (4, 1), (5, 1)] (.t 104) (.t 108), (some (100, true)), 4095, 0⟩,
                 ⟨(some 110), .pick (.t 100) (.t 109) (.c (.d (.sc (.bool false)))), none, 8191, 0⟩] true)
               (.cond (.t 110)
                (.seq
                 (.region [⟨(some 8), .mov (.c (.d (.sc (.bool false)))), none, 0, 0⟩] false)
                 .ret)
                .skip)))
             (.region [⟨(some 95), .mov (.t 12), none, 0, 0⟩,
               ⟨(some 96), .bin .add (.t 95) (.c (.d (.sc (.int .i64 1)))), none, 0, 0⟩,
               ⟨(some 12), .mov (.t 96), none, 0, 0⟩] false))))))
        (.seq
         (.region [⟨(some 112), .mov (.t 10), none, 0, 0⟩,
           ⟨(some 113), .mov (.t 1), none, 0, 0⟩,
           ⟨(some 114), .mov (.t 3), none, 0, 0⟩,
           ⟨(some 115), .call 19 [(.t 112), (.t 113), (.t 114)], none, 0, 0⟩,
           ⟨(some 111), .mov (.t 115), none, 0, 0⟩,
           ⟨(some 116), .extract (.t 111) 0, none, 0, 0⟩,
           ⟨(some 117), .extract (.t 111) 1, none, 0, 0⟩,
           ⟨(some 13), .mov (.t 116), none, 0, 0⟩,
           ⟨(some 14), .mov (.t 117), none, 0, 0⟩] false)
         (.seq
          (.region [⟨(some 119), .mov (.t 10), none, 0, 0⟩,
            ⟨(some 120), .mov (.t 1), none, 0, 0⟩,
            ⟨(some 121), .call 22 [(.t 119), (.t 120)], none, 0, 0⟩,
            ⟨(some 118), .mov (.t 121), none, 0, 0⟩,
            ⟨(some 122), .extract (.t 118) 0, none, 0, 0⟩,
            ⟨(some 123), .extract (.t 118) 1, none, 0, 0⟩,
            ⟨(some 15), .mov (.t 122), none, 0, 0⟩,
            ⟨(some 16), .mov (.t 123), none, 0, 0⟩] false)
          (.seq
           (.region [⟨(some 125), .mov (.t 10), none, 0, 0⟩,
             ⟨(some 126), .mov (.t 3), none, 0, 0⟩,
             ⟨(some 127), .call 17 [(.t 125), (.t 126)], none, 0, 0⟩,
             ⟨(some 124), .mov (.t 127), none, 0, 0⟩,
             ⟨(some 128), .extract (.t 124) 0, none, 0, 0⟩,
             ⟨(some 129), .extract (.t 124) 1, none, 0, 0⟩,
             ⟨(some 130), .extract (.t 124) 2, none, 0, 0⟩,
             ⟨(some 17), .mov (.t 128), none, 0, 0⟩,
             ⟨(some 18), .mov (.t 129), none, 0, 0⟩,
             ⟨(some 19), .mov (.t 130), none, 0, 0⟩] false)
           (.seq
            (.region [⟨(some 132), .mov (.t 10), none, 0, 0⟩,
              ⟨(some 133), .call 11 [(.t 132)], none, 0, 0⟩,
              ⟨(some 131), .mov (.t 133), none, 0, 0⟩,
              ⟨(some 134), .extract (.t 131) 0, none, 0, 0⟩,
              ⟨(some 135), .extract (.t 131) 1, none, 0, 0⟩,
              ⟨(some 20), .mov (.t 134), none, 0, 0⟩,
              ⟨(some 21), .mov (.t 135), none, 0, 0⟩] false)
            (.seq
             (.seq
              (.region [⟨(some 136), .mov (.t 14), none, 0, 0⟩,
                ⟨(some 137), .bin .neq (.t 136) (.c (.d (.sc (.int .i64 36)))), none, 1, 0⟩,
                ⟨(some 138), .mov (.t 137), none, 3, 0⟩,
                ⟨(some 139), .mov (.t 16), (some (138, false)), 7, 0⟩,
                ⟨(some 140), .bin .neq (.t 139) (.c (.d (.sc (.int .i64 36)))), (some (138, false)), 15, 0⟩,
                ⟨(some 141), .pick (.t 138) (.c (.d (.sc (.bool true)))) (.t 140), none, 31, 0⟩,
                ⟨(some 142), .mov (.t 141), none, 63, 0⟩,
                ⟨(some 143), .mov (.t 19), (some (142, false)), 127, 0⟩,
                ⟨(some 144), .bin .neq (.t 143) (.c (.d (.sc (.int .i64 0)))), (some (142, false)), 255, 0⟩,
                ⟨(some 145), .pick (.t 142) (.c (.d (.sc (.bool true)))) (.t 144), none, 511, 0⟩,
                ⟨(some 146), .mov (.t 145), none, 1023, 0⟩,
                ⟨(some 147), .mov (.t 18), (some (146, false)), 2047, 0⟩,
                ⟨(some 148), .mov (.t 1), (some (146, false)), 2047, 0⟩,
                ⟨(some 149), .bin .eql (.t 147) (.t 148), (some (146, false)), 8191, 0⟩,
                ⟨(some 150), .pick (.t 146) (.c (.d (.sc (.bool true)))) (.t 149), none, 16383, 0⟩,
                ⟨(some 151), .mov (.t 150), none, 32767, 0⟩,
                ⟨(some 152), .mov (.t 17), (some (151, false)), 65535, 0⟩,
                ⟨(some 153), .len (.t 152), (some (151, false)), 131071, 0⟩,
                ⟨(some 154), .mov (.t 10), (some (151, false)), 65535, 0⟩,
                ⟨(some 155), .len (.t 154), (some (151, false)), 327679, 0⟩,
                ⟨(some 156), .bin .neq (.t 153) (.t 155), (some (151, false)), 1048575, 0⟩,
                ⟨(some 157), .pick (.t 151) (.c (.d (.sc (.bool true)))) (.t 156), none, 2097151, 0⟩,
                ⟨(some 158), .mov (.t 157), none, 4194303, 0⟩,
                ⟨(some 159), .mov (.t 17), (some (158, false)), 8388607, 0⟩,
                ⟨(some 160), .mov (.t 1), (some (158, false)), 8388607, 0⟩,
                ⟨(some 161), .indexAddr 6 (.t 159) (.t 160), (some (158, false)), 33554431, 0⟩,
                ⟨(some 162), .load 6 true (.t 161), (some (158, false)), 67108863, 0⟩,
                ⟨(some 163), .mov (.t 10), (some (158, false)), 8388607, 0⟩,
                ⟨(some 164), .mov (.t 1), (some (158, false)), 8388607, 0⟩,
                ⟨(some 165), .indexAddr 6 (.t 163) (.t 164), (some (158, false)), 411041791, 0⟩,
                ⟨(some 166), .load 6 true (.t 165), (some (158, false)), 947912703, 0⟩,
                ⟨(some 167), .eqA true 6 [(0, 1), (1, 1), (2, 1), (3, 1), (4, 1), (5, 1)] (.t 162) (.t 166), (some (158, false)), 2147483647, 0⟩,
                ⟨(some 168), .pick (.t 158) (.c (.d (.sc (.bool true)))) (.t 167), none, 4294967295, 0⟩,
                ⟨(some 169), .mov (.t 168), none, 8589934591, 0⟩,
                ⟨(some 170), .mov (.t 21), (some (169, false)), 17179869183, 0⟩,
                ⟨(some 171), .bin .neq (.t 170) (.c (.d (.sc (.int .i64 0)))), (some (169, false)), 34359738367, 0⟩,
                ⟨(some 172), .pick (.t 169) (.c (.d (.sc (.bool true)))) (.t 171), none, 68719476735, 0⟩] true)
              (.cond (.t 172)
               (.seq
                (.region [⟨(some 8), .mov (.c (.d (.sc (.bool false)))), none, 0, 0⟩] false)
                .ret)
               .skip))
             (.seq
              (.seq
               (.region [⟨(some 22), .mov (.c (.d (.sc (.int .i64 0)))), none, 0, 0⟩] false)
               (.block 2
                (.loop
                 (.seq
                  (.seq
                   (.region [⟨(some 173), .mov (.t 22), none, 0, 0⟩,
                     ⟨(some 174), .mov (.t 20), none, 0, 0⟩,
                     ⟨(some 175), .len (.t 174), none, 0, 0⟩,
                     ⟨(some 176), .bin .lss (.t 173) (.t 175), none, 0, 0⟩] false)
                   (.cond (.t 176)
                    .skip
                    (.exit 2)))
                  (.seq
                   (.block 3
                    (.seq
                     (.region [⟨(some 179), .mov (.t 20), none, 0, 0⟩,
                       ⟨(some 180), .mov (.t 22), none, 0, 0⟩,
                       ⟨(some 181), .indexAddr 1 (.t 179) (.t 180), none, 3, 0⟩,
                       ⟨(some 182), .load 1 false (.t 181), none, 7, 0⟩,
                       ⟨(some 183), .mov (.t 1), none, 0, 0⟩,
                       ⟨(some 184), .bin .eql (.t 182) (.t 183), none, 31, 0⟩,
                       ⟨(some 185), .mov (.t 184), none, 63, 0⟩,
                       ⟨(some 186), .mov (.t 20), (some (185, false)), 127, 0⟩,
                       ⟨(some 187), .mov (.t 22), (some (185, false)), 127, 0⟩,
                       ⟨(some 188), .indexAddr 1 (.t 186) (.t 187), (some (185, false)), 511, 0⟩,
                       ⟨(some 189), .load 1 false (.t 188), (some (185, false)), 1023, 0⟩,
                       ⟨(some 190), .bin .lss (.t 189) (.c (.d (.sc (.int .i64 0)))), (some (185, false)), 2047, 0⟩,
                       ⟨(some 191), .pick (.t 185) (.c (.d (.sc (.bool true)))) (.t 190), none, 4095, 0⟩,
                       ⟨(some 192), .mov (.t 191), none, 8191, 0⟩,
                       ⟨(some 193), .mov (.t 20), (some (192, false)), 16383, 0⟩,
                       ⟨(some 194), .mov (.t 22), (some (192, false)), 16383, 0⟩,
                       ⟨(some 195), .indexAddr 1 (.t 193) (.t 194), (some (192, false)), 65535, 0⟩,
                       ⟨(some 196), .load 1 false (.t 195), (some (192, false)), 131071, 0⟩,
                       ⟨(some 197), .mov (.t 10), (some (192, false)), 16383, 0⟩,
                       ⟨(some 198), .len (.t 197), (some (192, false)), 278527, 0⟩,
                       ⟨(some 199), .bin .geq (.t 196) (.t 198), (some (192, false)), 1048575, 0⟩,
                       ⟨(some 200), .pick (.t 192) (.c (.d (.sc (.bool true)))) (.t 199), none, 2097151, 0⟩,
                       ⟨(some 201), .mov (.t 200), none, 4194303, 0⟩,
                       ⟨(some 202), .mov (.t 10), (some (201, false)), 8388607, 0⟩,
                       ⟨(some 203), .mov (.t 20), (some (201, false)), 8388607, 0⟩,
                       ⟨(some 204), .mov (.t 22), (some (201, false)), 8388607, 0⟩,
                       ⟨(some 205), .indexAddr 1 (.t 203) (.t 204), (some (201, false)), 58720255, 0⟩,
                       ⟨(some 206), .load 1 false (.t 205), (some (201, false)), 125829119, 0⟩,
                       ⟨(some 207), .indexAddr 6 (.t 202) (.t 206), (some (201, false)), 268435455, 0⟩,
                       ⟨(some 208), .fieldAddr 0 (.t 207), (some (201, false)), 536870911, 0⟩,
                       ⟨(some 209), .load 1 false (.t 208), (some (201, false)), 1073741823, 0⟩,
                       ⟨(some 210), .bin .neq (.t 209) (.c (.d (.sc (.int .u8 1)))), (some (201, false)), 2147483647, 0⟩,
                       ⟨(some 211), .pick (.t 201) (.c (.d (.sc (.bool true)))) (.t 210), none, 4294967295, 0⟩,
                       ⟨(some 212), .mov (.t 211), none, 8589934591, 0⟩,
                       ⟨(some 213), .mov (.t 22), (some (212, false)), 17179869183, 0⟩,
                       ⟨(some 214), .bin .gtr (.t 213) (.c (.d (.sc (.int .i64 0)))), (some (212, false)), 34359738367, 0⟩,
                       ⟨(some 215), .mov (.t 214), (some (212, false)), 68719476735, 0⟩,
                       ⟨(some 216), .mov (.t 20), (some (215, true)), 137438953471, 0⟩,
                       ⟨(some 217), .mov (.t 22), (some (215, true)), 137438953471, 0⟩,
                       ⟨(some 218), .indexAddr 1 (.t 216) (.t 217), (some (215, true)), 549755813887, 0⟩,
                       ⟨(some 219), .load 1 false (.t 218), (some (215, true)), 1099511627775, 0⟩,
                       ⟨(some 220), .mov (.t 20), (some (215, true)), 137438953471, 0⟩,
                       ⟨(some 221), .mov (.t 22), (some (215, true)), 137438953471, 0⟩,
                       ⟨(some 222), .bin .sub (.t 221) (.c (.d (.sc (.int .i64 1)))), (some (215, true)), 4535485464575, 0⟩,
                       ⟨(some 223), .indexAddr 1 (.t 220) (.t 222), (some (215, true)), 15530601742335, 0⟩,
                       ⟨(some 224), .load 1 false (.t 223), (some (215, true)), 33122787786751, 0⟩,
                       ⟨(some 225), .bin .leq (.t 219) (.t 224), (some (215, true)), 70368744177663, 0⟩,
                       ⟨(some 226), .pick (.t 215) (.t 225) (.c (.d (.sc (.bool false)))), (some (212, false)), 140737488355327, 0⟩,
                       ⟨(some 227), .pick (.t 212) (.c (.d (.sc (.bool true)))) (.t 226), none, 281474976710655, 0⟩] true)
                     (.cond (.t 227)
                      (.seq
                       (.region [⟨(some 8), .mov (.c (.d (.sc (.bool false)))), none, 0, 0⟩] false)
                       .ret)
                      .skip)))
                   (.region [⟨(some 177), .mov (.t 22), none, 0, 0⟩,
                     ⟨(some 178), .bin .add (.t 177) (.c (.d (.sc (.int .i64 1)))), none, 0, 0⟩,
                     ⟨(some 22), .mov (.t 178), none, 0, 0⟩] false))))))
              (.seq
               (.region [⟨(some 228), .mov (.t 9), none, 0, 0⟩,
                 ⟨(some 8), .mov (.t 228), none, 0, 0⟩] false)
               .ret)))))))))))))), false⟩
def md : Nat → Eng.Mode := fun f => match f with
  | 25 => ⟨[], false⟩
  | 26 => ⟨[], false⟩
  | 9 => ⟨[], false⟩
  | 27 => ⟨[], false⟩
  | 28 => ⟨[], false⟩
  | 10 => ⟨[], false⟩
  | 39 => ⟨[], false⟩
  | 30 => ⟨[], false⟩
  | 13 => ⟨[], false⟩
  | 11 => ⟨[], false⟩
  | 40 => ⟨[], false⟩
  | 31 => ⟨[], false⟩
  | 14 => ⟨[], false⟩
  | 29 => ⟨[], false⟩
  | 12 => ⟨[], false⟩
  | 15 => ⟨[], false⟩
  | 3 => ⟨[], false⟩
  | 32 => ⟨[], false⟩
  | 35 => ⟨[], true⟩
  | 34 => ⟨[], true⟩
  | 17 => ⟨[(24, 1), (22, 1), (8, 1), (16, 1)], false⟩
  | 16 => ⟨[], false⟩
  | 4 => ⟨[], false⟩
  | 36 => ⟨[], false⟩
  | 19 => ⟨[(26, 1), (24, 1), (9, 1), (23, 1)], false⟩
  | 24 => ⟨[], false⟩
  | 6 => ⟨[], false⟩
  | 22 => ⟨[(22, 1), (7, 1), (21, 1)], false⟩
  | 7 => ⟨[], false⟩
  | _ => ⟨[], false⟩
def lib : Nat → Option TypeId := fun f => match f with
  | 33 => some 23
  | _ => none
def tab : Nat → Option AFn := fun f => match f with
  | 25 => some t25
  | 26 => some t26
  | 9 => some t9
  | 27 => some t27
  | 28 => some t28
  | 10 => some t10
  | 39 => some t39
  | 30 => some t30
  | 13 => some t13
  | 11 => some t11
  | 40 => some t40
  | 31 => some t31
  | 14 => some t14
  | 29 => some t29
  | 12 => some t12
  | 15 => some t15
  | 3 => some t3
  | 32 => some t32
  | 35 => some t35
  | 34 => some t34
  | 17 => some t17
  | 16 => some t16
  | 4 => some t4
  | 36 => some t36
  | 19 => some t19
  | 24 => some t24
  | 6 => some t6
  | 22 => some t22
  | 7 => some t7
  | _ => none
theorem tab25 : fnP Try.prog lib md 25 = some t25 := by kernel_rfl
theorem tab26 : fnP Try.prog lib md 26 = some t26 := by kernel_rfl
theorem tab9 : fnP Try.prog lib md 9 = some t9 := by kernel_rfl
theorem tab27 : fnP Try.prog lib md 27 = some t27 := by kernel_rfl
theorem tab28 : fnP Try.prog lib md 28 = some t28 := by kernel_rfl
theorem tab10 : fnP Try.prog lib md 10 = some t10 := by kernel_rfl
theorem tab39 : fnP Try.prog lib md 39 = some t39 := by kernel_rfl
theorem tab30 : fnP Try.prog lib md 30 = some t30 := by kernel_rfl
theorem tab13 : fnP Try.prog lib md 13 = some t13 := by kernel_rfl
theorem tab11 : fnP Try.prog lib md 11 = some t11 := by kernel_rfl
theorem tab40 : fnP Try.prog lib md 40 = some t40 := by kernel_rfl
theorem tab31 : fnP Try.prog lib md 31 = some t31 := by kernel_rfl
theorem tab14 : fnP Try.prog lib md 14 = some t14 := by kernel_rfl
theorem tab29 : fnP Try.prog lib md 29 = some t29 := by kernel_rfl
theorem tab12 : fnP Try.prog lib md 12 = some t12 := by kernel_rfl
theorem tab15 : fnP Try.prog lib md 15 = some t15 := by kernel_rfl
theorem tab3 : fnP Try.prog lib md 3 = some t3 := by kernel_rfl
theorem tab32 : fnP Try.prog lib md 32 = some t32 := by kernel_rfl
theorem tab35 : fnP Try.prog lib md 35 = some t35 := by kernel_rfl
theorem tab34 : fnP Try.prog lib md 34 = some t34 := by kernel_rfl
theorem tab17 : fnP Try.prog lib md 17 = some t17 := by kernel_rfl
theorem tab16 : fnP Try.prog lib md 16 = some t16 := by kernel_rfl
theorem tab4 : fnP Try.prog lib md 4 = some t4 := by kernel_rfl
theorem tab36 : fnP Try.prog lib md 36 = some t36 := by kernel_rfl
theorem tab19 : fnP Try.prog lib md 19 = some t19 := by kernel_rfl
theorem tab24 : fnP Try.prog lib md 24 = some t24 := by kernel_rfl
theorem tab6 : fnP Try.prog lib md 6 = some t6 := by kernel_rfl
theorem tab22 : fnP Try.prog lib md 22 = some t22 := by kernel_rfl
theorem tab7 : fnP Try.prog lib md 7 = some t7 := by kernel_rfl
theorem tabOK : ∀ f fn, tab f = some fn → fnP Try.prog lib md f = some fn := by
  intro f fn h
  unfold tab at h
  split at h
  · injection h with h; subst h; exact tab25
  · injection h with h; subst h; exact tab26
  · injection h with h; subst h; exact tab9
  · injection h with h; subst h; exact tab27
  · injection h with h; subst h; exact tab28
  · injection h with h; subst h; exact tab10
  · injection h with h; subst h; exact tab39
  · injection h with h; subst h; exact tab30
  · injection h with h; subst h; exact tab13
  · injection h with h; subst h; exact tab11
  · injection h with h; subst h; exact tab40
  · injection h with h; subst h; exact tab31
  · injection h with h; subst h; exact tab14
  · injection h with h; subst h; exact tab29
  · injection h with h; subst h; exact tab12
  · injection h with h; subst h; exact tab15
  · injection h with h; subst h; exact tab3
  · injection h with h; subst h; exact tab32
  · injection h with h; subst h; exact tab35
  · injection h with h; subst h; exact tab34
  · injection h with h; subst h; exact tab17
  · injection h with h; subst h; exact tab16
  · injection h with h; subst h; exact tab4
  · injection h with h; subst h; exact tab36
  · injection h with h; subst h; exact tab19
  · injection h with h; subst h; exact tab24
  · injection h with h; subst h; exact tab6
  · injection h with h; subst h; exact tab22
  · injection h with h; subst h; exact tab7
  · cases h
theorem clone33 : IsClone Try.prog 33 23 := ⟨_, Try.func33, by kernel_rfl, by kernel_rfl, by kernel_rfl, by kernel_rfl⟩
theorem libOK : ∀ f T, lib f = some T → IsClone Try.prog f T := by
  intro f T h
  unfold lib at h
  split at h
  · injection h with h; subst h; exact clone33
  · cases h
end Go.Proofs.Ytkdjilgpknecfaa
