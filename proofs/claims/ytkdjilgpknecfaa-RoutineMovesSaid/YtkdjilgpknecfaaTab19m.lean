/- The tables of the functions. -/
import Derived.Test.YtkdjilgpknecfaaSymN
import Derived.Test.YtkdjilgpknecfaaRows
import Derived.ProofKit
namespace Go.Proofs.Ytkdjilgpknecfaa
open Go Go.Eng
/-- wreckage/wreckageref19.Twin -/
def t18 : AFn := ⟨1, 6, [.t 2],
 (.seq
  (.region [⟨(some 2), .mov (.c (.own [] .full)), none, 0, 0⟩] false)
  (.seq
   (.region [⟨(some 3), .buildSlice 6 0 [(.sc (.int .u8 0)), (.sc (.int .u64 0)), (.sc (.int .u64 0)), (.sc (.int .u64 0)), (.sc (.int .u64 0)), (.sc (.int .i64 0))] [], none, 0, 1⟩,
     ⟨(some 4), .mov (.t 0), none, 0, 0⟩,
     ⟨(some 5), .append 6 48 (.t 3) (.t 4), none, 0, 1⟩,
     ⟨(some 2), .mov (.t 5), none, 0, 0⟩] false)
   .ret)), false⟩
/-- wreckage/routine.base -/
def t26 : AFn := ⟨1, 7, [.t 2],
 (.seq
  (.region [⟨(some 2), .mov (.c (.d (.sc (.int .u64 0)))), none, 0, 0⟩] false)
  (.seq
   (.region [⟨(some 3), .mov (.t 0), none, 0, 0⟩,
     ⟨(some 4), .bin .add (.t 3) (.c (.d (.sc (.int .i64 1)))), none, 0, 0⟩,
     ⟨(some 5), .conv .u64 (.t 4), none, 0, 0⟩,
     ⟨(some 6), .bin .mul (.c (.d (.sc (.int .u64 16777216)))) (.t 5), none, 0, 0⟩,
     ⟨(some 2), .mov (.t 6), none, 0, 0⟩] false)
   .ret)), false⟩
/-- wreckage/routine.coded -/
def t25 : AFn := ⟨1, 9, [.t 2],
 (.seq
  (.region [⟨(some 2), .mov (.c (.d (.sc (.bool false)))), none, 0, 0⟩] false)
  (.seq
   (.region [⟨(some 3), .mov (.t 0), none, 0, 0⟩,
     ⟨(some 4), .bin .geq (.t 3) (.c (.d (.sc (.int .u64 256)))), none, 0, 0⟩,
     ⟨(some 5), .mov (.t 4), none, 0, 0⟩,
     ⟨(some 6), .mov (.t 0), (some (5, true)), 0, 0⟩,
     ⟨(some 7), .bin .lss (.t 6) (.c (.d (.sc (.int .u64 8448)))), (some (5, true)), 0, 0⟩,
     ⟨(some 8), .pick (.t 5) (.t 7) (.c (.d (.sc (.bool false)))), none, 0, 0⟩,
     ⟨(some 2), .mov (.t 8), none, 0, 0⟩] false)
   .ret)), false⟩
/-- wreckage/routine.high -/
def t39 : AFn := ⟨1, 14, [.t 2],
 (.seq
  (.region [⟨(some 2), .mov (.c (.d (.sc (.bool false)))), none, 0, 0⟩] false)
  (.seq
   (.region [⟨(some 3), .mov (.t 0), none, 0, 0⟩,
     ⟨(some 4), .bin .eql (.t 3) (.c (.d (.sc (.int .u64 0)))), none, 0, 0⟩,
     ⟨(some 5), .mov (.t 4), none, 0, 0⟩,
     ⟨(some 6), .mov (.t 0), (some (5, false)), 0, 0⟩,
     ⟨(some 7), .bin .rem (.t 6) (.c (.d (.sc (.int .u64 8)))), (some (5, false)), 0, 0⟩,
     ⟨(some 8), .bin .eql (.t 7) (.c (.d (.sc (.int .u64 0)))), (some (5, false)), 0, 0⟩,
     ⟨(some 9), .mov (.t 8), (some (5, false)), 0, 0⟩,
     ⟨(some 10), .mov (.t 0), (some (9, true)), 0, 0⟩,
     ⟨(some 11), .bin .geq (.t 10) (.c (.d (.sc (.int .u64 65536)))), (some (9, true)), 0, 0⟩,
     ⟨(some 12), .pick (.t 9) (.t 11) (.c (.d (.sc (.bool false)))), (some (5, false)), 0, 0⟩,
     ⟨(some 13), .pick (.t 5) (.c (.d (.sc (.bool true)))) (.t 12), none, 0, 0⟩,
     ⟨(some 2), .mov (.t 13), none, 0, 0⟩] false)
   .ret)), false⟩
/-- wreckage/routine.valid -/
def t30 : AFn := ⟨2, 65, [.t 4],
 (.seq
  (.region [⟨(some 3), .box (.t 1), none, 0, 0⟩,
    ⟨(some 4), .mov (.c (.d (.sc (.bool false)))), none, 0, 0⟩] false)
  (.seq
   (.seq
    (.region [⟨(some 6), .fieldAddr 0 (.t 3), none, 0, 0⟩,
      ⟨(some 7), .load 1 false (.t 6), none, 0, 0⟩,
      ⟨(some 8), .bin .eql (.t 7) (.c (.d (.sc (.int .u8 3)))), none, 0, 0⟩] false)
    (.cond (.t 8)
     (.seq
      (.region [⟨(some 9), .load 6 true (.t 3), none, 0, 0⟩,
        ⟨(some 10), .mov (.t 0), none, 0, 0⟩,
        ⟨(some 11), .call 26 [(.t 10)], none, 2, 0⟩,
        ⟨(some 12), .build [(.d (.sc (.int .u8 0))), (.d (.sc (.int .u64 0))), (.d (.sc (.int .u64 0))), (.d (.sc (.int .u64 0))), (.d (.sc (.int .u64 0))), (.d (.sc (.int .i64 0)))] [(0, 1, (.c (.d (.sc (.int .u8 3))))), (2, 1, (.t 11))], none, 6, 0⟩,
        ⟨(some 13), .eqA false 6 [(0, 1), (1, 1), (2, 1), (3, 1), (4, 1), (5, 1)] (.t 9) (.t 12), none, 15, 0⟩,
        ⟨(some 4), .mov (.t 13), none, 31, 0⟩] true)
      .ret)
     .skip))
   (.seq
    (.region [⟨(some 14), .fieldAddr 2 (.t 3), none, 0, 0⟩,
      ⟨(some 15), .load 1 false (.t 14), none, 1, 0⟩,
      ⟨(some 16), .mov (.t 0), none, 0, 0⟩,
      ⟨(some 17), .call 26 [(.t 16)], none, 4, 0⟩,
      ⟨(some 18), .bin .sub (.t 15) (.t 17), none, 15, 0⟩,
      ⟨(some 5), .mov (.t 18), none, 31, 0⟩] true)
    (.seq
     (.seq
      (.region [⟨(some 19), .fieldAddr 2 (.t 3), none, 0, 0⟩,
        ⟨(some 20), .load 1 false (.t 19), none, 1, 0⟩,
        ⟨(some 21), .mov (.t 0), none, 0, 0⟩,
        ⟨(some 22), .call 26 [(.t 21)], none, 4, 0⟩,
        ⟨(some 23), .bin .lss (.t 20) (.t 22), none, 15, 0⟩,
        ⟨(some 24), .mov (.t 23), none, 31, 0⟩,
        ⟨(some 25), .mov (.t 5), (some (24, false)), 63, 0⟩,
        ⟨(some 26), .bin .lss (.t 25) (.c (.d (.sc (.int .u64 24)))), (some (24, false)), 127, 0⟩,
        ⟨(some 27), .pick (.t 24) (.c (.d (.sc (.bool true)))) (.t 26), none, 255, 0⟩,
        ⟨(some 28), .mov (.t 27), none, 511, 0⟩,
        ⟨(some 29), .mov (.t 5), (some (28, false)), 1023, 0⟩,
        ⟨(some 30), .bin .gtr (.t 29) (.c (.d (.sc (.int .u64 4096)))), (some (28, false)), 2047, 0⟩,
        ⟨(some 31), .pick (.t 28) (.c (.d (.sc (.bool true)))) (.t 30), none, 4095, 0⟩,
        ⟨(some 32), .mov (.t 31), none, 8191, 0⟩,
        ⟨(some 33), .mov (.t 5), (some (32, false)), 16383, 0⟩,
        ⟨(some 34), .bin .rem (.t 33) (.c (.d (.sc (.int .u64 8)))), (some (32, false)), 32767, 0⟩,
        ⟨(some 35), .bin .neq (.t 34) (.c (.d (.sc (.int .u64 0)))), (some (32, false)), 65535, 0⟩,
        ⟨(some 36), .pick (.t 32) (.c (.d (.sc (.bool true)))) (.t 35), none, 131071, 0⟩] true)
      (.cond (.t 36)
       (.seq
        (.region [⟨(some 4), .mov (.c (.d (.sc (.bool false)))), none, 0, 0⟩] false)
        .ret)
       .skip))
     (.seq
      (.region [⟨(some 37), .fieldAddr 0 (.t 3), none, 0, 0⟩,
        ⟨(some 38), .load 1 false (.t 37), none, 0, 0⟩,
        ⟨(some 39), .bin .eql (.t 38) (.c (.d (.sc (.int .u8 2)))), none, 0, 0⟩,
        ⟨(some 40), .mov (.t 39), none, 0, 0⟩,
        ⟨(some 41), .fieldAddr 0 (.t 3), (some (40, false)), 0, 0⟩,
        ⟨(some 42), .load 1 false (.t 41), (some (40, false)), 0, 0⟩,
        ⟨(some 43), .bin .eql (.t 42) (.c (.d (.sc (.int .u8 1)))), (some (40, false)), 0, 0⟩,
        ⟨(some 44), .mov (.t 43), (some (40, false)), 0, 0⟩,
        ⟨(some 45), .fieldAddr 5 (.t 3), (some (44, true)), 0, 0⟩,
        ⟨(some 46), .load 1 false (.t 45), (some (44, true)), 0, 0⟩,
        ⟨(some 47), .bin .eql (.t 46) (.c (.d (.sc (.int .i64 0)))), (some (44, true)), 0, 0⟩,
        ⟨(some 48), .pick (.t 44) (.t 47) (.c (.d (.sc (.bool false)))), (some (40, false)), 0, 0⟩,
        ⟨(some 49), .pick (.t 40) (.c (.d (.sc (.bool true)))) (.t 48), none, 0, 0⟩,
        ⟨(some 50), .mov (.t 49), none, 0, 0⟩,
        ⟨(some 51), .fieldAddr 1 (.t 3), (some (50, true)), 0, 0⟩,
        ⟨(some 52), .load 1 false (.t 51), (some (50, true)), 0, 0⟩,
        ⟨(some 53), .call 25 [(.t 52)], (some (50, true)), 0, 0⟩,
        ⟨(some 54), .pick (.t 50) (.t 53) (.c (.d (.sc (.bool false)))), none, 0, 0⟩,
        ⟨(some 55), .mov (.t 54), none, 0, 0⟩,
        ⟨(some 56), .fieldAddr 3 (.t 3), (some (55, true)), 0, 0⟩,
        ⟨(some 57), .load 1 false (.t 56), (some (55, true)), 0, 0⟩,
        ⟨(some 58), .call 39 [(.t 57)], (some (55, true)), 0, 0⟩,
        ⟨(some 59), .pick (.t 55) (.t 58) (.c (.d (.sc (.bool false)))), none, 0, 0⟩,
        ⟨(some 60), .mov (.t 59), none, 0, 0⟩,
        ⟨(some 61), .fieldAddr 4 (.t 3), (some (60, true)), 0, 0⟩,
        ⟨(some 62), .load 1 false (.t 61), (some (60, true)), 0, 0⟩,
        ⟨(some 63), .call 39 [(.t 62)], (some (60, true)), 0, 0⟩,
        ⟨(some 64), .pick (.t 60) (.t 63) (.c (.d (.sc (.bool false)))), none, 0, 0⟩,
        ⟨(some 4), .mov (.t 64), none, 0, 0⟩] false)
      .ret))))), false⟩
/-- wreckage/routine.Check -/
def t13 : AFn := ⟨1, 25, [.t 2],
 (.seq
  (.region [⟨(some 2), .mov (.c (.d (.sc (.int .i64 0)))), none, 0, 0⟩] false)
  (.seq
   (.seq
    (.region [⟨(some 5), .mov (.t 0), none, 0, 0⟩,
      ⟨(some 6), .len (.t 5), none, 0, 0⟩,
      ⟨(some 7), .bin .lss (.t 6) (.c (.d (.sc (.int .i64 1)))), none, 0, 0⟩,
      ⟨(some 8), .mov (.t 7), none, 0, 0⟩,
      ⟨(some 9), .mov (.t 0), (some (8, false)), 0, 0⟩,
      ⟨(some 10), .len (.t 9), (some (8, false)), 0, 0⟩,
      ⟨(some 11), .bin .gtr (.t 10) (.c (.d (.sc (.int .i64 16)))), (some (8, false)), 0, 0⟩,
      ⟨(some 12), .pick (.t 8) (.c (.d (.sc (.bool true)))) (.t 11), none, 0, 0⟩] false)
    (.cond (.t 12)
     (.seq
      (.region [⟨(some 2), .mov (.c (.d (.sc (.int .i64 8)))), none, 0, 0⟩] false)
      .ret)
     .skip))
   (.seq
    (.seq
     (.region [⟨(some 13), .mov (.t 0), none, 0, 0⟩,
       ⟨(some 14), .len (.t 13), none, 0, 0⟩,
       ⟨(some 15), .mov (.c (.d (.sc (.int .i64 0)))), none, 0, 0⟩] false)
     (.block 0
      (.loop
       (.seq
        (.region [⟨(some 16), .bin .lss (.t 15) (.t 14), none, 0, 0⟩] false)
        (.seq
         (.cond (.t 16)
          .skip
          (.exit 0))
         (.seq
          (.block 1
           (.seq
            (.region [⟨(some 17), .mov (.t 15), none, 0, 0⟩,
              ⟨(some 18), .indexAddr 6 (.t 13) (.t 15), none, 0, 0⟩,
              ⟨(some 19), .load 6 true (.t 18), none, 0, 0⟩,
              ⟨(some 4), .alloc [(.d (.sc (.int .u8 0))), (.d (.sc (.int .u64 0))), (.d (.sc (.int .u64 0))), (.d (.sc (.int .u64 0))), (.d (.sc (.int .u64 0))), (.d (.sc (.int .i64 0)))], none, 0, 0⟩,
              ⟨(some 3), .mov (.t 17), none, 0, 0⟩,
              ⟨none, .store 6 (.t 4) (.t 19), none, 0, 0⟩] false)
            (.seq
             (.region [⟨(some 20), .mov (.t 3), none, 0, 0⟩,
               ⟨(some 21), .load 6 true (.t 4), none, 0, 0⟩,
               ⟨(some 22), .call 30 [(.t 20), (.t 21)], none, 0, 0⟩,
               ⟨(some 23), .un .not (.t 22), none, 0, 0⟩] false)
             (.cond (.t 23)
              (.seq
               (.region [⟨(some 2), .mov (.c (.d (.sc (.int .i64 8)))), none, 0, 0⟩] false)
               .ret)
              .skip))))
          (.region [⟨(some 24), .bin .add (.t 15) (.c (.d (.sc (.int .i64 1)))), none, 0, 0⟩,
            ⟨(some 15), .mov (.t 24), none, 0, 0⟩] false)))))))
    (.seq
     (.region [⟨(some 2), .mov (.c (.d (.sc (.int .i64 0)))), none, 0, 0⟩] false)
     .ret)))), false⟩
/-- wreckage/routine.numbered -/
def t36 : AFn := ⟨2, 19, [.t 4],
 (.seq
  (.region [⟨(some 4), .mov (.c (.d (.sc (.int .i64 0)))), none, 0, 0⟩] false)
  (.seq
   (.seq
    (.region [⟨(some 6), .mov (.t 0), none, 0, 0⟩,
      ⟨(some 7), .call 13 [(.t 6)], none, 0, 0⟩,
      ⟨(some 5), .mov (.t 7), none, 0, 0⟩] false)
    (.seq
     (.region [⟨(some 8), .mov (.t 5), none, 0, 0⟩,
       ⟨(some 9), .bin .neq (.t 8) (.c (.d (.sc (.int .i64 0)))), none, 0, 0⟩] false)
     (.cond (.t 9)
      (.seq
       (.region [⟨(some 10), .mov (.t 5), none, 0, 0⟩,
         ⟨(some 4), .mov (.t 10), none, 0, 0⟩] false)
       .ret)
      .skip)))
   (.seq
    (.seq
     (.region [⟨(some 11), .mov (.t 1), none, 0, 0⟩,
       ⟨(some 12), .bin .lss (.t 11) (.c (.d (.sc (.int .i64 0)))), none, 0, 0⟩,
       ⟨(some 13), .mov (.t 12), none, 0, 0⟩,
       ⟨(some 14), .mov (.t 1), (some (13, false)), 0, 0⟩,
       ⟨(some 15), .mov (.t 0), (some (13, false)), 0, 0⟩,
       ⟨(some 16), .len (.t 15), (some (13, false)), 0, 0⟩,
       ⟨(some 17), .bin .geq (.t 14) (.t 16), (some (13, false)), 0, 0⟩,
       ⟨(some 18), .pick (.t 13) (.c (.d (.sc (.bool true)))) (.t 17), none, 0, 0⟩] false)
     (.cond (.t 18)
      (.seq
       (.region [⟨(some 4), .mov (.c (.d (.sc (.int .i64 2)))), none, 0, 0⟩] false)
       .ret)
      .skip))
    (.seq
     (.region [⟨(some 4), .mov (.c (.d (.sc (.int .i64 0)))), none, 0, 0⟩] false)
     .ret)))), false⟩
/-- wreckage/routine.Block -/
def t19 : AFn := ⟨3, 34, [.t 6, .t 7],
 (.seq
  (.region [⟨(some 6), .mov (.c (.own [] .full)), none, 0, 0⟩,
    ⟨(some 7), .mov (.c (.d (.sc (.int .i64 0)))), none, 0, 0⟩] false)
  (.seq
   (.seq
    (.region [⟨(some 10), .mov (.t 0), none, 0, 0⟩,
      ⟨(some 11), .mov (.t 1), none, 0, 0⟩,
      ⟨(some 12), .call 36 [(.t 10), (.t 11)], none, 0, 0⟩,
      ⟨(some 8), .mov (.t 12), none, 0, 0⟩] false)
    (.seq
     (.region [⟨(some 13), .mov (.t 8), none, 0, 0⟩,
       ⟨(some 14), .bin .neq (.t 13) (.c (.d (.sc (.int .i64 0)))), none, 0, 0⟩] false)
     (.cond (.t 14)
      (.seq
       (.region [⟨(some 15), .mov (.t 8), none, 0, 0⟩,
         ⟨(some 6), .mov (.c (.own [] .full)), none, 0, 0⟩,
         ⟨(some 7), .mov (.t 15), none, 0, 0⟩] false)
       .ret)
      .skip)))
   (.seq
    (.seq
     (.region [⟨(some 16), .mov (.t 0), none, 0, 0⟩,
       ⟨(some 17), .mov (.t 1), none, 0, 0⟩,
       ⟨(some 18), .indexAddr 6 (.t 16) (.t 17), none, 0, 0⟩,
       ⟨(some 19), .fieldAddr 0 (.t 18), none, 0, 0⟩,
       ⟨(some 20), .load 1 false (.t 19), none, 0, 0⟩,
       ⟨(some 21), .bin .neq (.t 20) (.c (.d (.sc (.int .u8 1)))), none, 0, 0⟩] false)
     (.cond (.t 21)
      (.seq
       (.region [⟨(some 6), .mov (.c (.own [] .full)), none, 0, 0⟩,
         ⟨(some 7), .mov (.c (.d (.sc (.int .i64 36)))), none, 0, 0⟩] false)
       .ret)
      .skip))
    (.seq
     (.region [⟨(some 22), .mov (.t 0), none, 0, 0⟩,
       ⟨(some 23), .clone 6 48 (.t 22), none, 0, 1⟩,
       ⟨(some 9), .mov (.t 23), none, 0, 0⟩] false)
     (.seq
      (.region [⟨(some 24), .mov (.t 9), none, 0, 0⟩,
        ⟨(some 25), .mov (.t 1), none, 0, 0⟩,
        ⟨(some 26), .mov (.t 9), none, 0, 0⟩,
        ⟨(some 27), .mov (.t 1), none, 0, 0⟩,
        ⟨(some 28), .mov (.t 2), none, 0, 0⟩,
        ⟨(some 29), .indexAddr 6 (.t 24) (.t 25), none, 0, 0⟩,
        ⟨(some 30), .fieldAddr 0 (.t 29), none, 0, 0⟩,
        ⟨none, .store 1 (.t 30) (.c (.d (.sc (.int .u8 2)))), none, 0, 0⟩,
        ⟨(some 31), .indexAddr 6 (.t 26) (.t 27), none, 0, 0⟩,
        ⟨(some 32), .fieldAddr 5 (.t 31), none, 0, 0⟩,
        ⟨none, .store 1 (.t 32) (.t 28), none, 0, 0⟩] false)
      (.seq
       (.region [⟨(some 33), .mov (.t 9), none, 0, 0⟩,
         ⟨(some 6), .mov (.t 33), none, 0, 0⟩,
         ⟨(some 7), .mov (.c (.d (.sc (.int .i64 0)))), none, 0, 0⟩] false)
       .ret)))))), false⟩
/-- wreckage/wreckageref19.Base -/
def t28 : AFn := ⟨1, 7, [.t 2],
 (.seq
  (.region [⟨(some 2), .mov (.c (.d (.sc (.int .u64 0)))), none, 0, 0⟩] false)
  (.seq
   (.region [⟨(some 3), .mov (.t 0), none, 0, 0⟩,
     ⟨(some 4), .bin .add (.t 3) (.c (.d (.sc (.int .i64 1)))), none, 0, 0⟩,
     ⟨(some 5), .bin .mul (.c (.d (.sc (.int .i64 16777216)))) (.t 4), none, 0, 0⟩,
     ⟨(some 6), .conv .u64 (.t 5), none, 0, 0⟩,
     ⟨(some 2), .mov (.t 6), none, 0, 0⟩] false)
   .ret)), false⟩
/-- wreckage/wreckageref19.Code -/
def t27 : AFn := ⟨1, 11, [.t 2],
 (.seq
  (.region [⟨(some 2), .mov (.c (.d (.sc (.bool false)))), none, 0, 0⟩] false)
  (.seq
   (.region [⟨(some 3), .mov (.t 0), none, 0, 0⟩,
     ⟨(some 4), .bin .quo (.t 3) (.c (.d (.sc (.int .u64 256)))), none, 0, 0⟩,
     ⟨(some 5), .bin .geq (.t 4) (.c (.d (.sc (.int .u64 1)))), none, 0, 0⟩,
     ⟨(some 6), .mov (.t 5), none, 0, 0⟩,
     ⟨(some 7), .mov (.t 0), (some (6, true)), 0, 0⟩,
     ⟨(some 8), .bin .quo (.t 7) (.c (.d (.sc (.int .u64 256)))), (some (6, true)), 0, 0⟩,
     ⟨(some 9), .bin .leq (.t 8) (.c (.d (.sc (.int .u64 32)))), (some (6, true)), 0, 0⟩,
     ⟨(some 10), .pick (.t 6) (.t 9) (.c (.d (.sc (.bool false)))), none, 0, 0⟩,
     ⟨(some 2), .mov (.t 10), none, 0, 0⟩] false)
   .ret)), false⟩
/-- wreckage/wreckageref19.record -/
def t40 : AFn := ⟨1, 14, [.t 2],
 (.seq
  (.region [⟨(some 2), .mov (.c (.d (.sc (.bool false)))), none, 0, 0⟩] false)
  (.seq
   (.region [⟨(some 3), .mov (.t 0), none, 0, 0⟩,
     ⟨(some 4), .bin .eql (.t 3) (.c (.d (.sc (.int .u64 0)))), none, 0, 0⟩,
     ⟨(some 5), .mov (.t 4), none, 0, 0⟩,
     ⟨(some 6), .mov (.t 0), (some (5, false)), 0, 0⟩,
     ⟨(some 7), .bin .geq (.t 6) (.c (.d (.sc (.int .u64 65536)))), (some (5, false)), 0, 0⟩,
     ⟨(some 8), .mov (.t 7), (some (5, false)), 0, 0⟩,
     ⟨(some 9), .mov (.t 0), (some (8, true)), 0, 0⟩,
     ⟨(some 10), .bin .rem (.t 9) (.c (.d (.sc (.int .u64 8)))), (some (8, true)), 0, 0⟩,
     ⟨(some 11), .bin .eql (.t 10) (.c (.d (.sc (.int .u64 0)))), (some (8, true)), 0, 0⟩,
     ⟨(some 12), .pick (.t 8) (.t 11) (.c (.d (.sc (.bool false)))), (some (5, false)), 0, 0⟩,
     ⟨(some 13), .pick (.t 5) (.c (.d (.sc (.bool true)))) (.t 12), none, 0, 0⟩,
     ⟨(some 2), .mov (.t 13), none, 0, 0⟩] false)
   .ret)), false⟩
/-- wreckage/wreckageref19.Valid -/
def t31 : AFn := ⟨2, 76, [.t 4],
 (.seq
  (.region [⟨(some 3), .box (.t 1), none, 0, 0⟩,
    ⟨(some 4), .mov (.c (.d (.sc (.bool false)))), none, 0, 0⟩] false)
  (.seq
   (.seq
    (.region [⟨(some 5), .fieldAddr 0 (.t 3), none, 0, 0⟩,
      ⟨(some 6), .load 1 false (.t 5), none, 0, 0⟩] false)
    (.block 0
     (.seq
      (.region [⟨(some 8), .bin .eql (.t 6) (.c (.d (.sc (.int .u8 1)))), none, 0, 0⟩,
        ⟨(some 7), .mov (.t 8), none, 0, 0⟩] false)
      (.cond (.t 7)
       (.seq
        (.region [⟨(some 9), .fieldAddr 5 (.t 3), none, 0, 0⟩,
          ⟨(some 10), .load 1 false (.t 9), none, 0, 0⟩,
          ⟨(some 11), .bin .neq (.t 10) (.c (.d (.sc (.int .i64 0)))), none, 0, 0⟩] false)
        (.cond (.t 11)
         (.seq
          (.region [⟨(some 4), .mov (.c (.d (.sc (.bool false)))), none, 0, 0⟩] false)
          .ret)
         .skip))
       (.seq
        (.region [⟨(some 13), .bin .eql (.t 6) (.c (.d (.sc (.int .u8 2)))), none, 0, 0⟩,
          ⟨(some 12), .mov (.t 13), none, 0, 0⟩] false)
        (.cond (.t 12)
         .skip
         (.seq
          (.region [⟨(some 15), .bin .eql (.t 6) (.c (.d (.sc (.int .u8 3)))), none, 0, 0⟩,
            ⟨(some 14), .mov (.t 15), none, 0, 0⟩] false)
          (.cond (.t 14)
           (.seq
            (.region [⟨(some 16), .fieldAddr 1 (.t 3), none, 0, 0⟩,
              ⟨(some 17), .load 1 false (.t 16), none, 1, 0⟩,
              ⟨(some 18), .bin .eql (.t 17) (.c (.d (.sc (.int .u64 0)))), none, 3, 0⟩,
              ⟨(some 19), .mov (.t 18), none, 7, 0⟩,
              ⟨(some 20), .fieldAddr 2 (.t 3), (some (19, true)), 15, 0⟩,
              ⟨(some 21), .load 1 false (.t 20), (some (19, true)), 31, 0⟩,
              ⟨(some 22), .mov (.t 0), (some (19, true)), 15, 0⟩,
              ⟨(some 23), .call 28 [(.t 22)], (some (19, true)), 79, 0⟩,
              ⟨(some 24), .bin .eql (.t 21) (.t 23), (some (19, true)), 255, 0⟩,
              ⟨(some 25), .pick (.t 19) (.t 24) (.c (.d (.sc (.bool false)))), none, 511, 0⟩,
              ⟨(some 26), .mov (.t 25), none, 1023, 0⟩,
              ⟨(some 27), .fieldAddr 3 (.t 3), (some (26, true)), 2047, 0⟩,
              ⟨(some 28), .load 1 false (.t 27), (some (26, true)), 4095, 0⟩,
              ⟨(some 29), .bin .eql (.t 28) (.c (.d (.sc (.int .u64 0)))), (some (26, true)), 8191, 0⟩,
              ⟨(some 30), .pick (.t 26) (.t 29) (.c (.d (.sc (.bool false)))), none, 16383, 0⟩,
              ⟨(some 31), .mov (.t 30), none, 32767, 0⟩,
              ⟨(some 32), .fieldAddr 4 (.t 3), (some (31, true)), 65535, 0⟩,
              ⟨(some 33), .load 1 false (.t 32), (some (31, true)), 131071, 0⟩,
              ⟨(some 34), .bin .eql (.t 33) (.c (.d (.sc (.int .u64 0)))), (some (31, true)), 262143, 0⟩,
              ⟨(some 35), .pick (.t 31) (.t 34) (.c (.d (.sc (.bool false)))), none, 524287, 0⟩,
              ⟨(some 36), .mov (.t 35), none, 1048575, 0⟩,
              ⟨(some 37), .fieldAddr 5 (.t 3), (some (36, true)), 2097151, 0⟩,
              ⟨(some 38), .load 1 false (.t 37), (some (36, true)), 4194303, 0⟩,
              ⟨(some 39), .bin .eql (.t 38) (.c (.d (.sc (.int .i64 0)))), (some (36, true)), 8388607, 0⟩,
              ⟨(some 40), .pick (.t 36) (.t 39) (.c (.d (.sc (.bool false)))), none, 16777215, 0⟩,
              ⟨(some 4), .mov (.t 40), none, 33554431, 0⟩] true)
            .ret)
           (.seq
            (.region [⟨(some 4), .mov (.c (.d (.sc (.bool false)))), none, 0, 0⟩] false)
            .ret)))))))))
   (.seq
    (.region [⟨(some 41), .fieldAddr 1 (.t 3), none, 0, 0⟩,
      ⟨(some 42), .load 1 false (.t 41), none, 1, 0⟩,
      ⟨(some 43), .call 27 [(.t 42)], none, 3, 0⟩,
      ⟨(some 44), .mov (.t 43), none, 7, 0⟩,
      ⟨(some 45), .fieldAddr 2 (.t 3), (some (44, true)), 15, 0⟩,
      ⟨(some 46), .load 1 false (.t 45), (some (44, true)), 31, 0⟩,
      ⟨(some 47), .mov (.t 0), (some (44, true)), 15, 0⟩,
      ⟨(some 48), .call 28 [(.t 47)], (some (44, true)), 79, 0⟩,
      ⟨(some 49), .bin .add (.t 48) (.c (.d (.sc (.int .u64 24)))), (some (44, true)), 207, 0⟩,
      ⟨(some 50), .bin .geq (.t 46) (.t 49), (some (44, true)), 511, 0⟩,
      ⟨(some 51), .pick (.t 44) (.t 50) (.c (.d (.sc (.bool false)))), none, 1023, 0⟩,
      ⟨(some 52), .mov (.t 51), none, 2047, 0⟩,
      ⟨(some 53), .fieldAddr 2 (.t 3), (some (52, true)), 4095, 0⟩,
      ⟨(some 54), .load 1 false (.t 53), (some (52, true)), 8191, 0⟩,
      ⟨(some 55), .mov (.t 0), (some (52, true)), 4095, 0⟩,
      ⟨(some 56), .call 28 [(.t 55)], (some (52, true)), 20479, 0⟩,
      ⟨(some 57), .bin .add (.t 56) (.c (.d (.sc (.int .u64 4096)))), (some (52, true)), 53247, 0⟩,
      ⟨(some 58), .bin .leq (.t 54) (.t 57), (some (52, true)), 131071, 0⟩,
      ⟨(some 59), .pick (.t 52) (.t 58) (.c (.d (.sc (.bool false)))), none, 262143, 0⟩,
      ⟨(some 60), .mov (.t 59), none, 524287, 0⟩,
      ⟨(some 61), .fieldAddr 2 (.t 3), (some (60, true)), 1048575, 0⟩,
      ⟨(some 62), .load 1 false (.t 61), (some (60, true)), 2097151, 0⟩,
      ⟨(some 63), .bin .rem (.t 62) (.c (.d (.sc (.int .u64 8)))), (some (60, true)), 4194303, 0⟩,
      ⟨(some 64), .bin .eql (.t 63) (.c (.d (.sc (.int .u64 0)))), (some (60, true)), 8388607, 0⟩,
      ⟨(some 65), .pick (.t 60) (.t 64) (.c (.d (.sc (.bool false)))), none, 16777215, 0⟩,
      ⟨(some 66), .mov (.t 65), none, 33554431, 0⟩,
      ⟨(some 67), .fieldAddr 3 (.t 3), (some (66, true)), 67108863, 0⟩,
      ⟨(some 68), .load 1 false (.t 67), (some (66, true)), 134217727, 0⟩,
      ⟨(some 69), .call 40 [(.t 68)], (some (66, true)), 268435455, 0⟩,
      ⟨(some 70), .pick (.t 66) (.t 69) (.c (.d (.sc (.bool false)))), none, 536870911, 0⟩,
      ⟨(some 71), .mov (.t 70), none, 1073741823, 0⟩,
      ⟨(some 72), .fieldAddr 4 (.t 3), (some (71, true)), 2147483647, 0⟩,
      ⟨(some 73), .load 1 false (.t 72), (some (71, true)), 4294967295, 0⟩,
      ⟨(some 74), .call 40 [(.t 73)], (some (71, true)), 8589934591, 0⟩,
      ⟨(some 75), .pick (.t 71) (.t 74) (.c (.d (.sc (.bool false)))), none, 17179869183, 0⟩,
      ⟨(some 4), .mov (.t 75), none, 34359738367, 0⟩] true)
    .ret))), false⟩
/-- wreckage/wreckageref19.Check -/
def t14 : AFn := ⟨1, 25, [.t 2],
 (.seq
  (.region [⟨(some 2), .mov (.c (.d (.sc (.int .i64 0)))), none, 0, 0⟩] false)
  (.seq
   (.seq
    (.region [⟨(some 4), .mov (.t 0), none, 0, 0⟩,
      ⟨(some 5), .len (.t 4), none, 0, 0⟩,
      ⟨(some 6), .bin .eql (.t 5) (.c (.d (.sc (.int .i64 0)))), none, 0, 0⟩,
      ⟨(some 7), .mov (.t 6), none, 0, 0⟩,
      ⟨(some 8), .mov (.t 0), (some (7, false)), 0, 0⟩,
      ⟨(some 9), .len (.t 8), (some (7, false)), 0, 0⟩,
      ⟨(some 10), .bin .gtr (.t 9) (.c (.d (.sc (.int .i64 16)))), (some (7, false)), 0, 0⟩,
      ⟨(some 11), .pick (.t 7) (.c (.d (.sc (.bool true)))) (.t 10), none, 0, 0⟩] false)
    (.cond (.t 11)
     (.seq
      (.region [⟨(some 2), .mov (.c (.d (.sc (.int .i64 8)))), none, 0, 0⟩] false)
      .ret)
     .skip))
   (.seq
    (.seq
     (.region [⟨(some 3), .mov (.c (.d (.sc (.int .i64 0)))), none, 0, 0⟩] false)
     (.block 0
      (.loop
       (.seq
        (.seq
         (.region [⟨(some 12), .mov (.t 3), none, 0, 0⟩,
           ⟨(some 13), .mov (.t 0), none, 0, 0⟩,
           ⟨(some 14), .len (.t 13), none, 0, 0⟩,
           ⟨(some 15), .bin .lss (.t 12) (.t 14), none, 0, 0⟩] false)
         (.cond (.t 15)
          .skip
          (.exit 0)))
        (.seq
         (.block 1
          (.seq
           (.region [⟨(some 18), .mov (.t 3), none, 0, 0⟩,
             ⟨(some 19), .mov (.t 0), none, 0, 0⟩,
             ⟨(some 20), .mov (.t 3), none, 0, 0⟩,
             ⟨(some 21), .indexAddr 6 (.t 19) (.t 20), none, 0, 0⟩,
             ⟨(some 22), .load 6 true (.t 21), none, 0, 0⟩,
             ⟨(some 23), .call 31 [(.t 18), (.t 22)], none, 0, 0⟩,
             ⟨(some 24), .un .not (.t 23), none, 0, 0⟩] false)
           (.cond (.t 24)
            (.seq
             (.region [⟨(some 2), .mov (.c (.d (.sc (.int .i64 8)))), none, 0, 0⟩] false)
             .ret)
            .skip)))
         (.region [⟨(some 16), .mov (.t 3), none, 0, 0⟩,
           ⟨(some 17), .bin .add (.t 16) (.c (.d (.sc (.int .i64 1)))), none, 0, 0⟩,
           ⟨(some 3), .mov (.t 17), none, 0, 0⟩] false))))))
    (.seq
     (.region [⟨(some 2), .mov (.c (.d (.sc (.int .i64 0)))), none, 0, 0⟩] false)
     .ret)))), false⟩
/-- wreckage/wreckageref19.asked -/
def t37 : AFn := ⟨2, 18, [.t 4],
 (.seq
  (.region [⟨(some 4), .mov (.c (.d (.sc (.int .i64 0)))), none, 0, 0⟩] false)
  (.seq
   (.seq
    (.region [⟨(some 5), .mov (.t 0), none, 0, 0⟩,
      ⟨(some 6), .call 14 [(.t 5)], none, 0, 0⟩,
      ⟨(some 7), .bin .neq (.t 6) (.c (.d (.sc (.int .i64 0)))), none, 0, 0⟩] false)
    (.cond (.t 7)
     (.seq
      (.region [⟨(some 8), .mov (.t 0), none, 0, 0⟩,
        ⟨(some 9), .call 14 [(.t 8)], none, 0, 0⟩,
        ⟨(some 4), .mov (.t 9), none, 0, 0⟩] false)
      .ret)
     .skip))
   (.seq
    (.seq
     (.region [⟨(some 10), .mov (.t 1), none, 0, 0⟩,
       ⟨(some 11), .bin .lss (.t 10) (.c (.d (.sc (.int .i64 0)))), none, 0, 0⟩,
       ⟨(some 12), .mov (.t 11), none, 0, 0⟩,
       ⟨(some 13), .mov (.t 1), (some (12, false)), 0, 0⟩,
       ⟨(some 14), .mov (.t 0), (some (12, false)), 0, 0⟩,
       ⟨(some 15), .len (.t 14), (some (12, false)), 0, 0⟩,
       ⟨(some 16), .bin .geq (.t 13) (.t 15), (some (12, false)), 0, 0⟩,
       ⟨(some 17), .pick (.t 12) (.c (.d (.sc (.bool true)))) (.t 16), none, 0, 0⟩] false)
     (.cond (.t 17)
      (.seq
       (.region [⟨(some 4), .mov (.c (.d (.sc (.int .i64 2)))), none, 0, 0⟩] false)
       .ret)
      .skip))
    (.seq
     (.region [⟨(some 4), .mov (.c (.d (.sc (.int .i64 0)))), none, 0, 0⟩] false)
     .ret)))), false⟩
/-- wreckage/wreckageref19.Block -/
def t20 : AFn := ⟨3, 34, [.t 6, .t 7],
 (.seq
  (.region [⟨(some 6), .mov (.c (.own [] .full)), none, 0, 0⟩,
    ⟨(some 7), .mov (.c (.d (.sc (.int .i64 0)))), none, 0, 0⟩] false)
  (.seq
   (.seq
    (.region [⟨(some 9), .mov (.t 0), none, 0, 0⟩,
      ⟨(some 10), .mov (.t 1), none, 0, 0⟩,
      ⟨(some 11), .call 37 [(.t 9), (.t 10)], none, 0, 0⟩,
      ⟨(some 12), .bin .neq (.t 11) (.c (.d (.sc (.int .i64 0)))), none, 0, 0⟩] false)
    (.cond (.t 12)
     (.seq
      (.region [⟨(some 13), .mov (.t 0), none, 0, 0⟩,
        ⟨(some 14), .mov (.t 1), none, 0, 0⟩,
        ⟨(some 15), .call 37 [(.t 13), (.t 14)], none, 0, 0⟩,
        ⟨(some 6), .mov (.c (.own [] .full)), none, 0, 0⟩,
        ⟨(some 7), .mov (.t 15), none, 0, 0⟩] false)
      .ret)
     .skip))
   (.seq
    (.seq
     (.region [⟨(some 16), .mov (.t 0), none, 0, 0⟩,
       ⟨(some 17), .mov (.t 1), none, 0, 0⟩,
       ⟨(some 18), .indexAddr 6 (.t 16) (.t 17), none, 0, 0⟩,
       ⟨(some 19), .fieldAddr 0 (.t 18), none, 0, 0⟩,
       ⟨(some 20), .load 1 false (.t 19), none, 0, 0⟩,
       ⟨(some 21), .bin .neq (.t 20) (.c (.d (.sc (.int .u8 1)))), none, 0, 0⟩] false)
     (.cond (.t 21)
      (.seq
       (.region [⟨(some 6), .mov (.c (.own [] .full)), none, 0, 0⟩,
         ⟨(some 7), .mov (.c (.d (.sc (.int .i64 36)))), none, 0, 0⟩] false)
       .ret)
      .skip))
    (.seq
     (.region [⟨(some 22), .mov (.t 0), none, 0, 0⟩,
       ⟨(some 23), .call 18 [(.t 22)], none, 0, 393217⟩,
       ⟨(some 8), .mov (.t 23), none, 0, 0⟩] false)
     (.seq
      (.region [⟨(some 24), .mov (.t 8), none, 0, 0⟩,
        ⟨(some 25), .mov (.t 1), none, 0, 0⟩,
        ⟨(some 26), .indexAddr 6 (.t 24) (.t 25), none, 0, 0⟩,
        ⟨(some 27), .fieldAddr 0 (.t 26), none, 0, 0⟩,
        ⟨none, .store 1 (.t 27) (.c (.d (.sc (.int .u8 2)))), none, 0, 0⟩] false)
      (.seq
       (.region [⟨(some 28), .mov (.t 8), none, 0, 0⟩,
         ⟨(some 29), .mov (.t 1), none, 0, 0⟩,
         ⟨(some 30), .mov (.t 2), none, 0, 0⟩,
         ⟨(some 31), .indexAddr 6 (.t 28) (.t 29), none, 0, 0⟩,
         ⟨(some 32), .fieldAddr 5 (.t 31), none, 0, 0⟩,
         ⟨none, .store 1 (.t 32) (.t 30), none, 0, 0⟩] false)
       (.seq
        (.region [⟨(some 33), .mov (.t 8), none, 0, 0⟩,
          ⟨(some 6), .mov (.t 33), none, 0, 0⟩,
          ⟨(some 7), .mov (.c (.d (.sc (.int .i64 0)))), none, 0, 0⟩] false)
        .ret))))))), false⟩
/-- wreckage/routine.Wake$1 -/
def t35 : AFn := ⟨2, 13, [.t 3],
 (.seq
  (.region [⟨(some 2), .box (.t 0), none, 0, 0⟩,
    ⟨(some 3), .mov (.c (.d (.sc (.bool false)))), none, 0, 0⟩] false)
  (.seq
   (.region [⟨(some 4), .fieldAddr 0 (.t 2), none, 0, 0⟩,
     ⟨(some 5), .load 1 false (.t 4), none, 0, 0⟩,
     ⟨(some 6), .bin .eql (.t 5) (.c (.d (.sc (.int .u8 2)))), none, 0, 0⟩,
     ⟨(some 7), .mov (.t 6), none, 0, 0⟩,
     ⟨(some 8), .fieldAddr 5 (.t 2), (some (7, true)), 0, 0⟩,
     ⟨(some 9), .load 1 false (.t 8), (some (7, true)), 0, 0⟩,
     ⟨(some 10), .load 1 false (.t 1), (some (7, true)), 0, 0⟩,
     ⟨(some 11), .bin .eql (.t 9) (.t 10), (some (7, true)), 0, 0⟩,
     ⟨(some 12), .pick (.t 7) (.t 11) (.c (.d (.sc (.bool false)))), none, 0, 0⟩,
     ⟨(some 3), .mov (.t 12), none, 0, 0⟩] false)
   .ret)), true⟩
/-- slices.IndexFunc[[]wreckage/api.Routine,wreckage/api.Routine] -/
def t34 : AFn := ⟨2, 19, [.t 4],
 (.seq
  (.region [⟨(some 4), .mov (.c (.d (.sc (.int .i64 0)))), none, 0, 0⟩] false)
  (.seq
   (.seq
    (.region [⟨(some 6), .mov (.t 0), none, 0, 0⟩,
      ⟨(some 7), .len (.t 6), none, 0, 0⟩,
      ⟨(some 8), .mov (.c (.d (.sc (.int .i64 0)))), none, 0, 0⟩] false)
    (.block 0
     (.loop
      (.seq
       (.region [⟨(some 9), .bin .lss (.t 8) (.t 7), none, 0, 0⟩] false)
       (.seq
        (.cond (.t 9)
         .skip
         (.exit 0))
        (.seq
         (.block 1
          (.seq
           (.region [⟨(some 10), .mov (.t 8), none, 0, 0⟩,
             ⟨(some 5), .mov (.t 10), none, 0, 0⟩] false)
           (.seq
            (.region [⟨(some 11), .mov (.t 1), none, 0, 0⟩,
              ⟨(some 12), .mov (.t 0), none, 0, 0⟩,
              ⟨(some 13), .mov (.t 5), none, 0, 0⟩,
              ⟨(some 14), .indexAddr 6 (.t 12) (.t 13), none, 0, 0⟩,
              ⟨(some 15), .load 6 true (.t 14), none, 0, 0⟩,
              ⟨(some 16), .callv (.t 11) [(.t 15)], none, 0, 0⟩] false)
            (.cond (.t 16)
             (.seq
              (.region [⟨(some 17), .mov (.t 5), none, 0, 0⟩,
                ⟨(some 4), .mov (.t 17), none, 0, 0⟩] false)
              .ret)
             .skip))))
         (.region [⟨(some 18), .bin .add (.t 8) (.c (.d (.sc (.int .i64 1)))), none, 0, 0⟩,
           ⟨(some 8), .mov (.t 18), none, 0, 0⟩] false)))))))
   (.seq
    (.region [⟨(some 4), .mov (.c (.d (.sc (.int .i64 (-1))))), none, 0, 0⟩] false)
    .ret))), true⟩
/-- wreckage/routine.Wake -/
def t17 : AFn := ⟨2, 32, [.t 4, .t 5, .t 6],
 (.seq
  (.region [⟨(some 3), .box (.t 1), none, 0, 0⟩,
    ⟨(some 4), .mov (.c (.own [] .full)), none, 0, 0⟩,
    ⟨(some 5), .mov (.c (.d (.sc (.int .i64 0)))), none, 0, 0⟩,
    ⟨(some 6), .mov (.c (.d (.sc (.int .i64 0)))), none, 0, 0⟩] false)
  (.seq
   (.seq
    (.region [⟨(some 10), .mov (.t 0), none, 0, 0⟩,
      ⟨(some 11), .call 13 [(.t 10)], none, 0, 0⟩,
      ⟨(some 7), .mov (.t 11), none, 0, 0⟩] false)
    (.seq
     (.region [⟨(some 12), .mov (.t 7), none, 0, 0⟩,
       ⟨(some 13), .bin .neq (.t 12) (.c (.d (.sc (.int .i64 0)))), none, 0, 0⟩] false)
     (.cond (.t 13)
      (.seq
       (.region [⟨(some 14), .mov (.t 7), none, 0, 0⟩,
         ⟨(some 4), .mov (.c (.own [] .full)), none, 0, 0⟩,
         ⟨(some 5), .mov (.c (.d (.sc (.int .i64 0)))), none, 0, 0⟩,
         ⟨(some 6), .mov (.t 14), none, 0, 0⟩] false)
       .ret)
      .skip)))
   (.seq
    (.region [⟨(some 15), .mov (.t 0), none, 0, 0⟩,
      ⟨(some 16), .clone 6 48 (.t 15), none, 0, 1⟩,
      ⟨(some 8), .mov (.t 16), none, 0, 0⟩] false)
    (.seq
     (.region [⟨(some 17), .mov (.t 8), none, 0, 0⟩,
       ⟨(some 18), .makeFunc 35 [(.t 3)], none, 0, 0⟩,
       ⟨(some 19), .call 34 [(.t 17), (.t 18)], none, 0, 0⟩,
       ⟨(some 9), .mov (.t 19), none, 0, 0⟩] false)
     (.seq
      (.seq
       (.region [⟨(some 20), .mov (.t 9), none, 0, 0⟩,
         ⟨(some 21), .bin .geq (.t 20) (.c (.d (.sc (.int .i64 0)))), none, 0, 0⟩] false)
       (.cond (.t 21)
        (.region [⟨(some 22), .mov (.t 8), none, 0, 0⟩,
          ⟨(some 23), .mov (.t 9), none, 0, 0⟩,
          ⟨(some 24), .mov (.t 8), none, 0, 0⟩,
          ⟨(some 25), .mov (.t 9), none, 0, 0⟩,
          ⟨(some 26), .indexAddr 6 (.t 22) (.t 23), none, 0, 0⟩,
          ⟨(some 27), .fieldAddr 0 (.t 26), none, 0, 0⟩,
          ⟨none, .store 1 (.t 27) (.c (.d (.sc (.int .u8 1)))), none, 0, 0⟩,
          ⟨(some 28), .indexAddr 6 (.t 24) (.t 25), none, 0, 0⟩,
          ⟨(some 29), .fieldAddr 5 (.t 28), none, 0, 0⟩,
          ⟨none, .store 1 (.t 29) (.c (.d (.sc (.int .i64 0)))), none, 0, 0⟩] false)
        .skip))
      (.seq
       (.region [⟨(some 30), .mov (.t 8), none, 0, 0⟩,
         ⟨(some 31), .mov (.t 9), none, 0, 0⟩,
         ⟨(some 4), .mov (.t 30), none, 0, 0⟩,
         ⟨(some 5), .mov (.t 31), none, 0, 0⟩,
         ⟨(some 6), .mov (.c (.d (.sc (.int .i64 0)))), none, 0, 0⟩] false)
       .ret)))))), false⟩
/-- wreckage/wreckageref19.Woken -/
def t38 : AFn := ⟨2, 42, [.t 4, .t 5],
 (.seq
  (.region [⟨(some 4), .mov (.c (.own [] .full)), none, 0, 0⟩,
    ⟨(some 5), .mov (.c (.d (.sc (.int .i64 0)))), none, 0, 0⟩] false)
  (.seq
   (.region [⟨(some 8), .mov (.t 0), none, 0, 0⟩,
     ⟨(some 9), .call 18 [(.t 8)], none, 0, 393217⟩,
     ⟨(some 6), .mov (.t 9), none, 0, 0⟩] false)
   (.seq
    (.seq
     (.region [⟨(some 7), .mov (.c (.d (.sc (.int .i64 0)))), none, 0, 0⟩] false)
     (.block 0
      (.loop
       (.seq
        (.seq
         (.region [⟨(some 10), .mov (.t 7), none, 0, 0⟩,
           ⟨(some 11), .mov (.t 6), none, 0, 0⟩,
           ⟨(some 12), .len (.t 11), none, 0, 0⟩,
           ⟨(some 13), .bin .lss (.t 10) (.t 12), none, 0, 0⟩] false)
         (.cond (.t 13)
          .skip
          (.exit 0)))
        (.seq
         (.block 1
          (.seq
           (.region [⟨(some 16), .mov (.t 6), none, 0, 0⟩,
             ⟨(some 17), .mov (.t 7), none, 0, 0⟩,
             ⟨(some 18), .indexAddr 6 (.t 16) (.t 17), none, 0, 0⟩,
             ⟨(some 19), .fieldAddr 0 (.t 18), none, 0, 0⟩,
             ⟨(some 20), .load 1 false (.t 19), none, 0, 0⟩,
             ⟨(some 21), .bin .eql (.t 20) (.c (.d (.sc (.int .u8 2)))), none, 0, 0⟩,
             ⟨(some 22), .mov (.t 21), none, 0, 0⟩,
             ⟨(some 23), .mov (.t 6), (some (22, true)), 0, 0⟩,
             ⟨(some 24), .mov (.t 7), (some (22, true)), 0, 0⟩,
             ⟨(some 25), .indexAddr 6 (.t 23) (.t 24), (some (22, true)), 0, 0⟩,
             ⟨(some 26), .fieldAddr 5 (.t 25), (some (22, true)), 0, 0⟩,
             ⟨(some 27), .load 1 false (.t 26), (some (22, true)), 0, 0⟩,
             ⟨(some 28), .mov (.t 1), (some (22, true)), 0, 0⟩,
             ⟨(some 29), .bin .eql (.t 27) (.t 28), (some (22, true)), 0, 0⟩,
             ⟨(some 30), .pick (.t 22) (.t 29) (.c (.d (.sc (.bool false)))), none, 0, 0⟩] false)
           (.cond (.t 30)
            (.seq
             (.region [⟨(some 31), .mov (.t 6), none, 0, 0⟩,
               ⟨(some 32), .mov (.t 7), none, 0, 0⟩,
               ⟨(some 33), .indexAddr 6 (.t 31) (.t 32), none, 0, 0⟩,
               ⟨(some 34), .fieldAddr 0 (.t 33), none, 0, 0⟩,
               ⟨none, .store 1 (.t 34) (.c (.d (.sc (.int .u8 1)))), none, 0, 0⟩] false)
             (.seq
              (.region [⟨(some 35), .mov (.t 6), none, 0, 0⟩,
                ⟨(some 36), .mov (.t 7), none, 0, 0⟩,
                ⟨(some 37), .indexAddr 6 (.t 35) (.t 36), none, 0, 0⟩,
                ⟨(some 38), .fieldAddr 5 (.t 37), none, 0, 0⟩,
                ⟨none, .store 1 (.t 38) (.c (.d (.sc (.int .i64 0)))), none, 0, 0⟩] false)
              (.seq
               (.region [⟨(some 39), .mov (.t 6), none, 0, 0⟩,
                 ⟨(some 40), .mov (.t 7), none, 0, 0⟩,
                 ⟨(some 4), .mov (.t 39), none, 0, 0⟩,
                 ⟨(some 5), .mov (.t 40), none, 0, 0⟩] false)
               .ret)))
            .skip)))
         (.region [⟨(some 14), .mov (.t 7), none, 0, 0⟩,
           ⟨(some 15), .bin .add (.t 14) (.c (.d (.sc (.int .i64 1)))), none, 0, 0⟩,
           ⟨(some 7), .mov (.t 15), none, 0, 0⟩] false))))))
    (.seq
     (.region [⟨(some 41), .mov (.t 6), none, 0, 0⟩,
       ⟨(some 4), .mov (.t 41), none, 0, 0⟩,
       ⟨(some 5), .mov (.c (.d (.sc (.int .i64 (-1))))), none, 0, 0⟩] false)
     .ret)))), false⟩
/-- wreckage/wreckageref19.Wake -/
def t21 : AFn := ⟨2, 22, [.t 4, .t 5, .t 6],
 (.seq
  (.region [⟨(some 4), .mov (.c (.own [] .full)), none, 0, 0⟩,
    ⟨(some 5), .mov (.c (.d (.sc (.int .i64 0)))), none, 0, 0⟩,
    ⟨(some 6), .mov (.c (.d (.sc (.int .i64 0)))), none, 0, 0⟩] false)
  (.seq
   (.seq
    (.region [⟨(some 9), .mov (.t 0), none, 0, 0⟩,
      ⟨(some 10), .call 14 [(.t 9)], none, 0, 0⟩,
      ⟨(some 11), .bin .neq (.t 10) (.c (.d (.sc (.int .i64 0)))), none, 0, 0⟩] false)
    (.cond (.t 11)
     (.seq
      (.region [⟨(some 12), .mov (.t 0), none, 0, 0⟩,
        ⟨(some 13), .call 14 [(.t 12)], none, 0, 0⟩,
        ⟨(some 4), .mov (.c (.own [] .full)), none, 0, 0⟩,
        ⟨(some 5), .mov (.c (.d (.sc (.int .i64 0)))), none, 0, 0⟩,
        ⟨(some 6), .mov (.t 13), none, 0, 0⟩] false)
      .ret)
     .skip))
   (.seq
    (.region [⟨(some 15), .mov (.t 0), none, 0, 0⟩,
      ⟨(some 16), .mov (.t 1), none, 0, 0⟩,
      ⟨(some 17), .call 38 [(.t 15), (.t 16)], none, 0, 0⟩,
      ⟨(some 14), .mov (.t 17), none, 0, 0⟩,
      ⟨(some 18), .extract (.t 14) 0, none, 0, 0⟩,
      ⟨(some 19), .extract (.t 14) 1, none, 0, 0⟩,
      ⟨(some 7), .mov (.t 18), none, 0, 0⟩,
      ⟨(some 8), .mov (.t 19), none, 0, 0⟩] false)
    (.seq
     (.region [⟨(some 20), .mov (.t 7), none, 0, 0⟩,
       ⟨(some 21), .mov (.t 8), none, 0, 0⟩,
       ⟨(some 4), .mov (.t 20), none, 0, 0⟩,
       ⟨(some 5), .mov (.t 21), none, 0, 0⟩,
       ⟨(some 6), .mov (.c (.d (.sc (.int .i64 0)))), none, 0, 0⟩] false)
     .ret)))), false⟩
/-- wreckage/routine.End -/
def t22 : AFn := ⟨2, 29, [.t 4, .t 5],
 (.seq
  (.region [⟨(some 4), .mov (.c (.own [] .full)), none, 0, 0⟩,
    ⟨(some 5), .mov (.c (.d (.sc (.int .i64 0)))), none, 0, 0⟩] false)
  (.seq
   (.seq
    (.region [⟨(some 8), .mov (.t 0), none, 0, 0⟩,
      ⟨(some 9), .mov (.t 1), none, 0, 0⟩,
      ⟨(some 10), .call 36 [(.t 8), (.t 9)], none, 0, 0⟩,
      ⟨(some 6), .mov (.t 10), none, 0, 0⟩] false)
    (.seq
     (.region [⟨(some 11), .mov (.t 6), none, 0, 0⟩,
       ⟨(some 12), .bin .neq (.t 11) (.c (.d (.sc (.int .i64 0)))), none, 0, 0⟩] false)
     (.cond (.t 12)
      (.seq
       (.region [⟨(some 13), .mov (.t 6), none, 0, 0⟩,
         ⟨(some 4), .mov (.c (.own [] .full)), none, 0, 0⟩,
         ⟨(some 5), .mov (.t 13), none, 0, 0⟩] false)
       .ret)
      .skip)))
   (.seq
    (.seq
     (.region [⟨(some 14), .mov (.t 0), none, 0, 0⟩,
       ⟨(some 15), .mov (.t 1), none, 0, 0⟩,
       ⟨(some 16), .indexAddr 6 (.t 14) (.t 15), none, 0, 0⟩,
       ⟨(some 17), .fieldAddr 0 (.t 16), none, 0, 0⟩,
       ⟨(some 18), .load 1 false (.t 17), none, 0, 0⟩,
       ⟨(some 19), .bin .eql (.t 18) (.c (.d (.sc (.int .u8 3)))), none, 0, 0⟩] false)
     (.cond (.t 19)
      (.seq
       (.region [⟨(some 4), .mov (.c (.own [] .full)), none, 0, 0⟩,
         ⟨(some 5), .mov (.c (.d (.sc (.int .i64 36)))), none, 0, 0⟩] false)
       .ret)
      .skip))
    (.seq
     (.region [⟨(some 20), .mov (.t 0), none, 0, 0⟩,
       ⟨(some 21), .clone 6 48 (.t 20), none, 0, 1⟩,
       ⟨(some 7), .mov (.t 21), none, 0, 0⟩] false)
     (.seq
      (.region [⟨(some 22), .mov (.t 7), none, 0, 0⟩,
        ⟨(some 23), .mov (.t 1), none, 0, 0⟩,
        ⟨(some 24), .mov (.t 1), none, 0, 0⟩,
        ⟨(some 25), .call 26 [(.t 24)], none, 0, 0⟩,
        ⟨(some 26), .build [(.d (.sc (.int .u8 0))), (.d (.sc (.int .u64 0))), (.d (.sc (.int .u64 0))), (.d (.sc (.int .u64 0))), (.d (.sc (.int .u64 0))), (.d (.sc (.int .i64 0)))] [(0, 1, (.c (.d (.sc (.int .u8 3))))), (2, 1, (.t 25))], none, 0, 0⟩,
        ⟨(some 27), .indexAddr 6 (.t 22) (.t 23), none, 0, 0⟩,
        ⟨none, .store 6 (.t 27) (.t 26), none, 0, 0⟩] false)
      (.seq
       (.region [⟨(some 28), .mov (.t 7), none, 0, 0⟩,
         ⟨(some 4), .mov (.t 28), none, 0, 0⟩,
         ⟨(some 5), .mov (.c (.d (.sc (.int .i64 0)))), none, 0, 0⟩] false)
       .ret)))))), false⟩
/-- wreckage/wreckageref19.End -/
def t23 : AFn := ⟨2, 29, [.t 4, .t 5],
 (.seq
  (.region [⟨(some 4), .mov (.c (.own [] .full)), none, 0, 0⟩,
    ⟨(some 5), .mov (.c (.d (.sc (.int .i64 0)))), none, 0, 0⟩] false)
  (.seq
   (.seq
    (.region [⟨(some 7), .mov (.t 0), none, 0, 0⟩,
      ⟨(some 8), .mov (.t 1), none, 0, 0⟩,
      ⟨(some 9), .call 37 [(.t 7), (.t 8)], none, 0, 0⟩,
      ⟨(some 10), .bin .neq (.t 9) (.c (.d (.sc (.int .i64 0)))), none, 0, 0⟩] false)
    (.cond (.t 10)
     (.seq
      (.region [⟨(some 11), .mov (.t 0), none, 0, 0⟩,
        ⟨(some 12), .mov (.t 1), none, 0, 0⟩,
        ⟨(some 13), .call 37 [(.t 11), (.t 12)], none, 0, 0⟩,
        ⟨(some 4), .mov (.c (.own [] .full)), none, 0, 0⟩,
        ⟨(some 5), .mov (.t 13), none, 0, 0⟩] false)
      .ret)
     .skip))
   (.seq
    (.seq
     (.region [⟨(some 14), .mov (.t 0), none, 0, 0⟩,
       ⟨(some 15), .mov (.t 1), none, 0, 0⟩,
       ⟨(some 16), .indexAddr 6 (.t 14) (.t 15), none, 0, 0⟩,
       ⟨(some 17), .fieldAddr 0 (.t 16), none, 0, 0⟩,
       ⟨(some 18), .load 1 false (.t 17), none, 0, 0⟩,
       ⟨(some 19), .bin .eql (.t 18) (.c (.d (.sc (.int .u8 3)))), none, 0, 0⟩] false)
     (.cond (.t 19)
      (.seq
       (.region [⟨(some 4), .mov (.c (.own [] .full)), none, 0, 0⟩,
         ⟨(some 5), .mov (.c (.d (.sc (.int .i64 36)))), none, 0, 0⟩] false)
       .ret)
      .skip))
    (.seq
     (.region [⟨(some 20), .mov (.t 0), none, 0, 0⟩,
       ⟨(some 21), .call 18 [(.t 20)], none, 0, 393217⟩,
       ⟨(some 6), .mov (.t 21), none, 0, 0⟩] false)
     (.seq
      (.region [⟨(some 22), .mov (.t 6), none, 0, 0⟩,
        ⟨(some 23), .mov (.t 1), none, 0, 0⟩,
        ⟨(some 24), .mov (.t 1), none, 0, 0⟩,
        ⟨(some 25), .call 28 [(.t 24)], none, 0, 0⟩,
        ⟨(some 26), .build [(.d (.sc (.int .u8 0))), (.d (.sc (.int .u64 0))), (.d (.sc (.int .u64 0))), (.d (.sc (.int .u64 0))), (.d (.sc (.int .u64 0))), (.d (.sc (.int .i64 0)))] [(0, 1, (.c (.d (.sc (.int .u8 3))))), (2, 1, (.t 25))], none, 0, 0⟩,
        ⟨(some 27), .indexAddr 6 (.t 22) (.t 23), none, 0, 0⟩,
        ⟨none, .store 6 (.t 27) (.t 26), none, 0, 0⟩] false)
      (.seq
       (.region [⟨(some 28), .mov (.t 6), none, 0, 0⟩,
         ⟨(some 4), .mov (.t 28), none, 0, 0⟩,
         ⟨(some 5), .mov (.c (.d (.sc (.int .i64 0)))), none, 0, 0⟩] false)
       .ret)))))), false⟩
/-- wreckage/wreckageref19.Same -/
def t24 : AFn := ⟨2, 26, [.t 4],
 (.seq
  (.region [⟨(some 4), .mov (.c (.d (.sc (.bool false)))), none, 0, 0⟩] false)
  (.seq
   (.seq
    (.region [⟨(some 6), .mov (.t 0), none, 0, 0⟩,
      ⟨(some 7), .len (.t 6), none, 0, 0⟩,
      ⟨(some 8), .mov (.t 1), none, 0, 0⟩,
      ⟨(some 9), .len (.t 8), none, 0, 0⟩,
      ⟨(some 10), .bin .neq (.t 7) (.t 9), none, 0, 0⟩] false)
    (.cond (.t 10)
     (.seq
      (.region [⟨(some 4), .mov (.c (.d (.sc (.bool false)))), none, 0, 0⟩] false)
      .ret)
     .skip))
   (.seq
    (.seq
     (.region [⟨(some 5), .mov (.c (.d (.sc (.int .i64 0)))), none, 0, 0⟩] false)
     (.block 0
      (.loop
       (.seq
        (.seq
         (.region [⟨(some 11), .mov (.t 5), none, 0, 0⟩,
           ⟨(some 12), .mov (.t 0), none, 0, 0⟩,
           ⟨(some 13), .len (.t 12), none, 0, 0⟩,
           ⟨(some 14), .bin .lss (.t 11) (.t 13), none, 0, 0⟩] false)
         (.cond (.t 14)
          .skip
          (.exit 0)))
        (.seq
         (.block 1
          (.seq
           (.region [⟨(some 17), .mov (.t 0), none, 0, 0⟩,
             ⟨(some 18), .mov (.t 5), none, 0, 0⟩,
             ⟨(some 19), .indexAddr 6 (.t 17) (.t 18), none, 3, 0⟩,
             ⟨(some 20), .load 6 true (.t 19), none, 7, 0⟩,
             ⟨(some 21), .mov (.t 1), none, 0, 0⟩,
             ⟨(some 22), .mov (.t 5), none, 0, 0⟩,
             ⟨(some 23), .indexAddr 6 (.t 21) (.t 22), none, 48, 0⟩,
             ⟨(some 24), .load 6 true (.t 23), none, 112, 0⟩,
             ⟨(some 25), .eqA true 6 [(0, 1), (1, 1), (2, 1), (3, 1), (4, 1), (5, 1)] (.t 20) (.t 24), none, 255, 0⟩] true)
           (.cond (.t 25)
            (.seq
             (.region [⟨(some 4), .mov (.c (.d (.sc (.bool false)))), none, 0, 0⟩] false)
             .ret)
            .skip)))
         (.region [⟨(some 15), .mov (.t 5), none, 0, 0⟩,
           ⟨(some 16), .bin .add (.t 15) (.c (.d (.sc (.int .i64 1)))), none, 0, 0⟩,
           ⟨(some 5), .mov (.t 16), none, 0, 0⟩] false))))))
    (.seq
     (.region [⟨(some 4), .mov (.c (.d (.sc (.bool true)))), none, 0, 0⟩] false)
     .ret)))), false⟩
/-- wreckage/wreckagelaw19.RoutineMoves -/
def t5 : AFn := ⟨3, 105, [.t 6],
 (.seq
  (.region [⟨(some 6), .mov (.c (.d (.sc (.bool false)))), none, 0, 0⟩] false)
  (.seq
   (.seq
    (.region [⟨(some 22), .mov (.t 0), none, 0, 0⟩,
      ⟨(some 23), .len (.t 22), none, 0, 0⟩,
      ⟨(some 24), .bin .gtr (.t 23) (.c (.d (.sc (.int .i64 20)))), none, 0, 0⟩] false)
    (.cond (.t 24)
     (.seq
      (.region [⟨(some 6), .mov (.c (.d (.sc (.bool true)))), none, 0, 0⟩] false)
      .ret)
     .skip))
   (.seq
    (.region [⟨(some 25), .mov (.t 0), none, 0, 0⟩,
      ⟨(some 26), .call 18 [(.t 25)], none, 0, 0⟩,
      ⟨(some 7), .mov (.t 26), none, 0, 0⟩] false)
    (.seq
     (.region [⟨(some 28), .mov (.t 7), none, 0, 0⟩,
       ⟨(some 29), .mov (.t 1), none, 0, 0⟩,
       ⟨(some 30), .mov (.t 2), none, 0, 0⟩,
       ⟨(some 31), .call 19 [(.t 28), (.t 29), (.t 30)], none, 0, 0⟩,
       ⟨(some 27), .mov (.t 31), none, 0, 0⟩,
       ⟨(some 32), .extract (.t 27) 0, none, 0, 0⟩,
       ⟨(some 33), .extract (.t 27) 1, none, 0, 0⟩,
       ⟨(some 8), .mov (.t 32), none, 0, 0⟩,
       ⟨(some 9), .mov (.t 33), none, 0, 0⟩] false)
     (.seq
      (.region [⟨(some 35), .mov (.t 0), none, 0, 0⟩,
        ⟨(some 36), .mov (.t 1), none, 0, 0⟩,
        ⟨(some 37), .mov (.t 2), none, 0, 0⟩,
        ⟨(some 38), .call 20 [(.t 35), (.t 36), (.t 37)], none, 0, 0⟩,
        ⟨(some 34), .mov (.t 38), none, 0, 0⟩,
        ⟨(some 39), .extract (.t 34) 0, none, 0, 0⟩,
        ⟨(some 40), .extract (.t 34) 1, none, 0, 0⟩,
        ⟨(some 10), .mov (.t 39), none, 0, 0⟩,
        ⟨(some 11), .mov (.t 40), none, 0, 0⟩] false)
      (.seq
       (.region [⟨(some 42), .mov (.t 7), none, 0, 0⟩,
         ⟨(some 43), .mov (.t 2), none, 0, 0⟩,
         ⟨(some 44), .call 17 [(.t 42), (.t 43)], none, 0, 0⟩,
         ⟨(some 41), .mov (.t 44), none, 0, 0⟩,
         ⟨(some 45), .extract (.t 41) 0, none, 0, 0⟩,
         ⟨(some 46), .extract (.t 41) 1, none, 0, 0⟩,
         ⟨(some 47), .extract (.t 41) 2, none, 0, 0⟩,
         ⟨(some 12), .mov (.t 45), none, 0, 0⟩,
         ⟨(some 13), .mov (.t 46), none, 0, 0⟩,
         ⟨(some 14), .mov (.t 47), none, 0, 0⟩] false)
       (.seq
        (.region [⟨(some 49), .mov (.t 0), none, 0, 0⟩,
          ⟨(some 50), .mov (.t 2), none, 0, 0⟩,
          ⟨(some 51), .call 21 [(.t 49), (.t 50)], none, 0, 0⟩,
          ⟨(some 48), .mov (.t 51), none, 0, 0⟩,
          ⟨(some 52), .extract (.t 48) 0, none, 0, 0⟩,
          ⟨(some 53), .extract (.t 48) 1, none, 0, 0⟩,
          ⟨(some 54), .extract (.t 48) 2, none, 0, 0⟩,
          ⟨(some 15), .mov (.t 52), none, 0, 0⟩,
          ⟨(some 16), .mov (.t 53), none, 0, 0⟩,
          ⟨(some 17), .mov (.t 54), none, 0, 0⟩] false)
        (.seq
         (.region [⟨(some 56), .mov (.t 7), none, 0, 0⟩,
           ⟨(some 57), .mov (.t 1), none, 0, 0⟩,
           ⟨(some 58), .call 22 [(.t 56), (.t 57)], none, 0, 0⟩,
           ⟨(some 55), .mov (.t 58), none, 0, 0⟩,
           ⟨(some 59), .extract (.t 55) 0, none, 0, 0⟩,
           ⟨(some 60), .extract (.t 55) 1, none, 0, 0⟩,
           ⟨(some 18), .mov (.t 59), none, 0, 0⟩,
           ⟨(some 19), .mov (.t 60), none, 0, 0⟩] false)
         (.seq
          (.region [⟨(some 62), .mov (.t 0), none, 0, 0⟩,
            ⟨(some 63), .mov (.t 1), none, 0, 0⟩,
            ⟨(some 64), .call 23 [(.t 62), (.t 63)], none, 0, 0⟩,
            ⟨(some 61), .mov (.t 64), none, 0, 0⟩,
            ⟨(some 65), .extract (.t 61) 0, none, 0, 0⟩,
            ⟨(some 66), .extract (.t 61) 1, none, 0, 0⟩,
            ⟨(some 20), .mov (.t 65), none, 0, 0⟩,
            ⟨(some 21), .mov (.t 66), none, 0, 0⟩] false)
          (.seq
           (.region [⟨(some 67), .mov (.t 8), none, 0, 0⟩,
             ⟨(some 68), .mov (.t 10), none, 0, 0⟩,
             ⟨(some 69), .call 24 [(.t 67), (.t 68)], none, 0, 0⟩,
             ⟨(some 70), .mov (.t 69), none, 0, 0⟩,
             ⟨(some 71), .mov (.t 9), (some (70, true)), 0, 0⟩,
             ⟨(some 72), .mov (.t 11), (some (70, true)), 0, 0⟩,
             ⟨(some 73), .bin .eql (.t 71) (.t 72), (some (70, true)), 0, 0⟩,
             ⟨(some 74), .pick (.t 70) (.t 73) (.c (.d (.sc (.bool false)))), none, 0, 0⟩,
             ⟨(some 75), .mov (.t 74), none, 0, 0⟩,
             ⟨(some 76), .mov (.t 12), (some (75, true)), 0, 0⟩,
             ⟨(some 77), .mov (.t 15), (some (75, true)), 0, 0⟩,
             ⟨(some 78), .call 24 [(.t 76), (.t 77)], (some (75, true)), 0, 0⟩,
             ⟨(some 79), .pick (.t 75) (.t 78) (.c (.d (.sc (.bool false)))), none, 0, 0⟩,
             ⟨(some 80), .mov (.t 79), none, 0, 0⟩,
             ⟨(some 81), .mov (.t 13), (some (80, true)), 0, 0⟩,
             ⟨(some 82), .mov (.t 16), (some (80, true)), 0, 0⟩,
             ⟨(some 83), .bin .eql (.t 81) (.t 82), (some (80, true)), 0, 0⟩,
             ⟨(some 84), .pick (.t 80) (.t 83) (.c (.d (.sc (.bool false)))), none, 0, 0⟩,
             ⟨(some 85), .mov (.t 84), none, 0, 0⟩,
             ⟨(some 86), .mov (.t 14), (some (85, true)), 0, 0⟩,
             ⟨(some 87), .mov (.t 17), (some (85, true)), 0, 0⟩,
             ⟨(some 88), .bin .eql (.t 86) (.t 87), (some (85, true)), 0, 0⟩,
             ⟨(some 89), .pick (.t 85) (.t 88) (.c (.d (.sc (.bool false)))), none, 0, 0⟩,
             ⟨(some 90), .mov (.t 89), none, 0, 0⟩,
             ⟨(some 91), .mov (.t 18), (some (90, true)), 0, 0⟩,
             ⟨(some 92), .mov (.t 20), (some (90, true)), 0, 0⟩,
             ⟨(some 93), .call 24 [(.t 91), (.t 92)], (some (90, true)), 0, 0⟩,
             ⟨(some 94), .pick (.t 90) (.t 93) (.c (.d (.sc (.bool false)))), none, 0, 0⟩,
             ⟨(some 95), .mov (.t 94), none, 0, 0⟩,
             ⟨(some 96), .mov (.t 19), (some (95, true)), 0, 0⟩,
             ⟨(some 97), .mov (.t 21), (some (95, true)), 0, 0⟩,
             ⟨(some 98), .bin .eql (.t 96) (.t 97), (some (95, true)), 0, 0⟩,
             ⟨(some 99), .pick (.t 95) (.t 98) (.c (.d (.sc (.bool false)))), none, 0, 0⟩,
             ⟨(some 100), .mov (.t 99), none, 0, 0⟩,
             ⟨(some 101), .mov (.t 7), (some (100, true)), 0, 0⟩,
             ⟨(some 102), .mov (.t 0), (some (100, true)), 0, 0⟩,
             ⟨(some 103), .call 24 [(.t 101), (.t 102)], (some (100, true)), 0, 0⟩,
             ⟨(some 104), .pick (.t 100) (.t 103) (.c (.d (.sc (.bool false)))), none, 0, 0⟩,
             ⟨(some 6), .mov (.t 104), none, 0, 0⟩] false)
           .ret)))))))))), false⟩
def md : Nat → Eng.Mode := fun f => match f with
  | 18 => ⟨[(5, 1), (3, 1)], false⟩
  | 26 => ⟨[], false⟩
  | 25 => ⟨[], false⟩
  | 39 => ⟨[], false⟩
  | 30 => ⟨[], false⟩
  | 13 => ⟨[], false⟩
  | 36 => ⟨[], false⟩
  | 19 => ⟨[(23, 1)], false⟩
  | 28 => ⟨[], false⟩
  | 27 => ⟨[], false⟩
  | 40 => ⟨[], false⟩
  | 31 => ⟨[], false⟩
  | 14 => ⟨[], false⟩
  | 37 => ⟨[], false⟩
  | 20 => ⟨[(23, 393217)], false⟩
  | 35 => ⟨[], true⟩
  | 34 => ⟨[], true⟩
  | 17 => ⟨[(16, 1)], false⟩
  | 38 => ⟨[(9, 393217)], false⟩
  | 21 => ⟨[], false⟩
  | 22 => ⟨[(21, 1)], false⟩
  | 23 => ⟨[(21, 393217)], false⟩
  | 24 => ⟨[], false⟩
  | 5 => ⟨[], false⟩
  | _ => ⟨[], false⟩
def lib : Nat → Option TypeId := fun f => match f with
  | 33 => some 23
  | _ => none
def tab : Nat → Option AFn := fun f => match f with
  | 18 => some t18
  | 26 => some t26
  | 25 => some t25
  | 39 => some t39
  | 30 => some t30
  | 13 => some t13
  | 36 => some t36
  | 19 => some t19
  | 28 => some t28
  | 27 => some t27
  | 40 => some t40
  | 31 => some t31
  | 14 => some t14
  | 37 => some t37
  | 20 => some t20
  | 35 => some t35
  | 34 => some t34
  | 17 => some t17
  | 38 => some t38
  | 21 => some t21
  | 22 => some t22
  | 23 => some t23
  | 24 => some t24
  | 5 => some t5
  | _ => none
theorem tab18 : fnP Try.prog lib md 18 = some t18 := by kernel_rfl
theorem tab26 : fnP Try.prog lib md 26 = some t26 := by kernel_rfl
theorem tab25 : fnP Try.prog lib md 25 = some t25 := by kernel_rfl
theorem tab39 : fnP Try.prog lib md 39 = some t39 := by kernel_rfl
theorem tab30 : fnP Try.prog lib md 30 = some t30 := by kernel_rfl
theorem tab13 : fnP Try.prog lib md 13 = some t13 := by kernel_rfl
theorem tab36 : fnP Try.prog lib md 36 = some t36 := by kernel_rfl
theorem tab19 : fnP Try.prog lib md 19 = some t19 := by kernel_rfl
theorem tab28 : fnP Try.prog lib md 28 = some t28 := by kernel_rfl
theorem tab27 : fnP Try.prog lib md 27 = some t27 := by kernel_rfl
theorem tab40 : fnP Try.prog lib md 40 = some t40 := by kernel_rfl
theorem tab31 : fnP Try.prog lib md 31 = some t31 := by kernel_rfl
theorem tab14 : fnP Try.prog lib md 14 = some t14 := by kernel_rfl
theorem tab37 : fnP Try.prog lib md 37 = some t37 := by kernel_rfl
theorem tab20 : fnP Try.prog lib md 20 = some t20 := by kernel_rfl
theorem tab35 : fnP Try.prog lib md 35 = some t35 := by kernel_rfl
theorem tab34 : fnP Try.prog lib md 34 = some t34 := by kernel_rfl
theorem tab17 : fnP Try.prog lib md 17 = some t17 := by kernel_rfl
theorem tab38 : fnP Try.prog lib md 38 = some t38 := by kernel_rfl
theorem tab21 : fnP Try.prog lib md 21 = some t21 := by kernel_rfl
theorem tab22 : fnP Try.prog lib md 22 = some t22 := by kernel_rfl
theorem tab23 : fnP Try.prog lib md 23 = some t23 := by kernel_rfl
theorem tab24 : fnP Try.prog lib md 24 = some t24 := by kernel_rfl
theorem tab5 : fnP Try.prog lib md 5 = some t5 := by kernel_rfl
theorem tabOK : ∀ f fn, tab f = some fn → fnP Try.prog lib md f = some fn := by
  intro f fn h
  unfold tab at h
  split at h
  · injection h with h; subst h; exact tab18
  · injection h with h; subst h; exact tab26
  · injection h with h; subst h; exact tab25
  · injection h with h; subst h; exact tab39
  · injection h with h; subst h; exact tab30
  · injection h with h; subst h; exact tab13
  · injection h with h; subst h; exact tab36
  · injection h with h; subst h; exact tab19
  · injection h with h; subst h; exact tab28
  · injection h with h; subst h; exact tab27
  · injection h with h; subst h; exact tab40
  · injection h with h; subst h; exact tab31
  · injection h with h; subst h; exact tab14
  · injection h with h; subst h; exact tab37
  · injection h with h; subst h; exact tab20
  · injection h with h; subst h; exact tab35
  · injection h with h; subst h; exact tab34
  · injection h with h; subst h; exact tab17
  · injection h with h; subst h; exact tab38
  · injection h with h; subst h; exact tab21
  · injection h with h; subst h; exact tab22
  · injection h with h; subst h; exact tab23
  · injection h with h; subst h; exact tab24
  · injection h with h; subst h; exact tab5
  · cases h
theorem clone33 : IsClone Try.prog 33 23 := ⟨_, Try.func33, by kernel_rfl, by kernel_rfl, by kernel_rfl, by kernel_rfl⟩
theorem libOK : ∀ f T, lib f = some T → IsClone Try.prog f T := by
  intro f T h
  unfold lib at h
  split at h
  · injection h with h; subst h; exact clone33
  · cases h
end Go.Proofs.Ytkdjilgpknecfaa
