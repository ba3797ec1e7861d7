/- The tables of the functions. -/
import Derived.Test.YtdefleeofgekkaaSymN
import Derived.Test.YtdefleeofgekkaaRows
import Derived.ProofKit
import Derived.Test.YtdefleeofgekkaaEngCompact
import Derived.Test.YtdefleeofgekkaaLay43
namespace Go.Proofs.Ytdefleeofgekkaa
open Go Go.Eng
/-- wreckage/wreckageref38.deep -/
def t78 : AFn := ⟨2, 35, [.t 4],
 (.seq
  (.region [⟨(some 2), .box (.t 0), none, 0, 0⟩,
    ⟨(some 4), .mov (.c (.d (.sc (.bool false)))), none, 0, 0⟩] false)
  (.seq
   (.seq
    (.region [⟨(some 6), .mov (.t 1), none, 0, 0⟩,
      ⟨(some 7), .bin .eql (.t 6) (.c (.d (.sc (.int .i64 0)))), none, 0, 0⟩,
      ⟨(some 8), .mov (.t 7), none, 0, 0⟩,
      ⟨(some 9), .fieldAddr 2 (.t 2), (some (8, false)), 0, 0⟩,
      ⟨(some 10), .load 1 false (.t 9), (some (8, false)), 0, 0⟩,
      ⟨(some 11), .lenS (.t 10), (some (8, false)), 0, 0⟩,
      ⟨(some 12), .bin .gtr (.t 11) (.c (.d (.sc (.int .i64 100)))), (some (8, false)), 0, 0⟩,
      ⟨(some 13), .pick (.t 8) (.c (.d (.sc (.bool true)))) (.t 12), none, 0, 0⟩,
      ⟨(some 14), .mov (.t 13), none, 0, 0⟩,
      ⟨(some 15), .fieldAddr 3 (.t 2), (some (14, false)), 0, 0⟩,
      ⟨(some 16), .load 1 false (.t 15), (some (14, false)), 0, 0⟩,
      ⟨(some 17), .len (.t 16), (some (14, false)), 0, 0⟩,
      ⟨(some 18), .bin .gtr (.t 17) (.c (.d (.sc (.int .i64 400)))), (some (14, false)), 0, 0⟩,
      ⟨(some 19), .pick (.t 14) (.c (.d (.sc (.bool true)))) (.t 18), none, 0, 0⟩] false)
    (.cond (.t 19)
     (.seq
      (.region [⟨(some 4), .mov (.c (.d (.sc (.bool true)))), none, 0, 0⟩] false)
      .ret)
     .skip))
   (.seq
    (.seq
     (.region [⟨(some 5), .mov (.c (.d (.sc (.int .i64 0)))), none, 0, 0⟩] false)
     (.block 0
      (.loop
       (.seq
        (.seq
         (.region [⟨(some 20), .mov (.t 5), none, 0, 0⟩,
           ⟨(some 21), .fieldAddr 3 (.t 2), none, 0, 0⟩,
           ⟨(some 22), .load 1 false (.t 21), none, 0, 0⟩,
           ⟨(some 23), .len (.t 22), none, 0, 0⟩,
           ⟨(some 24), .bin .lss (.t 20) (.t 23), none, 0, 0⟩] false)
         (.cond (.t 24)
          .skip
          (.exit 0)))
        (.seq
         (.block 1
          (.seq
           (.region [⟨(some 27), .fieldAddr 3 (.t 2), none, 0, 0⟩,
             ⟨(some 28), .load 1 false (.t 27), none, 0, 0⟩,
             ⟨(some 29), .mov (.t 5), none, 0, 0⟩,
             ⟨(some 30), .indexAddr 5 (.t 28) (.t 29), none, 0, 0⟩,
             ⟨(some 31), .load 5 true (.t 30), none, 0, 0⟩,
             ⟨(some 32), .mov (.t 1), none, 0, 0⟩,
             ⟨(some 33), .bin .sub (.t 32) (.c (.d (.sc (.int .i64 1)))), none, 0, 0⟩,
             ⟨(some 34), .callF 78 [(.t 31), (.t 33)], none, 0, 0⟩] false)
           (.cond (.t 34)
            (.seq
             (.region [⟨(some 4), .mov (.c (.d (.sc (.bool true)))), none, 0, 0⟩] false)
             .ret)
            .skip)))
         (.region [⟨(some 25), .mov (.t 5), none, 0, 0⟩,
           ⟨(some 26), .bin .add (.t 25) (.c (.d (.sc (.int .i64 1)))), none, 0, 0⟩,
           ⟨(some 5), .mov (.t 26), none, 0, 0⟩] false))))))
    (.seq
     (.region [⟨(some 4), .mov (.c (.d (.sc (.bool false)))), none, 0, 0⟩] false)
     .ret)))), false⟩
/-- wreckage/wreckageref38.Nodes -/
def t79 : AFn := ⟨1, 25, [.t 2],
 (.seq
  (.region [⟨(some 1), .box (.t 0), none, 0, 0⟩,
    ⟨(some 2), .mov (.c (.d (.sc (.int .i64 0)))), none, 0, 0⟩] false)
  (.seq
   (.region [⟨(some 3), .mov (.c (.d (.sc (.int .i64 1)))), none, 0, 0⟩] false)
   (.seq
    (.seq
     (.region [⟨(some 4), .mov (.c (.d (.sc (.int .i64 0)))), none, 0, 0⟩] false)
     (.block 0
      (.loop
       (.seq
        (.seq
         (.region [⟨(some 5), .mov (.t 4), none, 0, 0⟩,
           ⟨(some 6), .fieldAddr 3 (.t 1), none, 0, 0⟩,
           ⟨(some 7), .load 1 false (.t 6), none, 0, 0⟩,
           ⟨(some 8), .len (.t 7), none, 0, 0⟩,
           ⟨(some 9), .bin .lss (.t 5) (.t 8), none, 0, 0⟩,
           ⟨(some 10), .mov (.t 9), none, 0, 0⟩,
           ⟨(some 11), .mov (.t 3), (some (10, true)), 0, 0⟩,
           ⟨(some 12), .bin .leq (.t 11) (.c (.d (.sc (.int .i64 5000)))), (some (10, true)), 0, 0⟩,
           ⟨(some 13), .pick (.t 10) (.t 12) (.c (.d (.sc (.bool false)))), none, 0, 0⟩] false)
         (.cond (.t 13)
          .skip
          (.exit 0)))
        (.seq
         (.block 1
          (.region [⟨(some 16), .mov (.t 3), none, 0, 0⟩,
            ⟨(some 17), .fieldAddr 3 (.t 1), none, 0, 0⟩,
            ⟨(some 18), .load 1 false (.t 17), none, 0, 0⟩,
            ⟨(some 19), .mov (.t 4), none, 0, 0⟩,
            ⟨(some 20), .indexAddr 5 (.t 18) (.t 19), none, 0, 0⟩,
            ⟨(some 21), .load 5 true (.t 20), none, 0, 0⟩,
            ⟨(some 22), .callF 79 [(.t 21)], none, 0, 0⟩,
            ⟨(some 23), .bin .add (.t 16) (.t 22), none, 0, 0⟩,
            ⟨(some 3), .mov (.t 23), none, 0, 0⟩] false))
         (.region [⟨(some 14), .mov (.t 4), none, 0, 0⟩,
           ⟨(some 15), .bin .add (.t 14) (.c (.d (.sc (.int .i64 1)))), none, 0, 0⟩,
           ⟨(some 4), .mov (.t 15), none, 0, 0⟩] false))))))
    (.seq
     (.region [⟨(some 24), .mov (.t 3), none, 0, 0⟩,
       ⟨(some 2), .mov (.t 24), none, 0, 0⟩] false)
     .ret)))), false⟩
/-- wreckage/wreckageref38.Great -/
def t52 : AFn := ⟨1, 10, [.t 2],
 (.seq
  (.region [⟨(some 1), .box (.t 0), none, 0, 0⟩,
    ⟨(some 2), .mov (.c (.d (.sc (.bool false)))), none, 0, 0⟩] false)
  (.seq
   (.region [⟨(some 3), .load 5 true (.t 1), none, 0, 0⟩,
     ⟨(some 4), .callF 78 [(.t 3), (.c (.d (.sc (.int .i64 14))))], none, 0, 0⟩,
     ⟨(some 5), .mov (.t 4), none, 0, 0⟩,
     ⟨(some 6), .load 5 true (.t 1), (some (5, false)), 0, 0⟩,
     ⟨(some 7), .callF 79 [(.t 6)], (some (5, false)), 0, 0⟩,
     ⟨(some 8), .bin .gtr (.t 7) (.c (.d (.sc (.int .i64 400)))), (some (5, false)), 0, 0⟩,
     ⟨(some 9), .pick (.t 5) (.c (.d (.sc (.bool true)))) (.t 8), none, 0, 0⟩,
     ⟨(some 2), .mov (.t 9), none, 0, 0⟩] false)
   .ret)), false⟩
/-- wreckage/wreckageref39.Great -/
def t50 : AFn := ⟨1, 29, [.t 2],
 (.seq
  (.region [⟨(some 2), .mov (.c (.d (.sc (.bool false)))), none, 0, 0⟩] false)
  (.seq
   (.seq
    (.region [⟨(some 4), .mov (.t 0), none, 0, 0⟩,
      ⟨(some 5), .len (.t 4), none, 0, 0⟩,
      ⟨(some 6), .bin .gtr (.t 5) (.c (.d (.sc (.int .i64 20)))), none, 0, 0⟩,
      ⟨(some 7), .mov (.t 6), none, 0, 0⟩,
      ⟨(some 8), .mov (.t 0), (some (7, true)), 0, 0⟩,
      ⟨(some 9), .len (.t 8), (some (7, true)), 0, 0⟩,
      ⟨(some 10), .bin .leq (.t 9) (.c (.d (.sc (.int .i64 410)))), (some (7, true)), 0, 0⟩,
      ⟨(some 11), .pick (.t 7) (.t 10) (.c (.d (.sc (.bool false)))), none, 0, 0⟩,
      ⟨(some 12), .mov (.t 11), none, 0, 0⟩,
      ⟨(some 13), .mov (.t 0), (some (12, false)), 0, 0⟩,
      ⟨(some 14), .len (.t 13), (some (12, false)), 0, 0⟩,
      ⟨(some 15), .bin .gtr (.t 14) (.c (.d (.sc (.int .i64 420)))), (some (12, false)), 0, 0⟩,
      ⟨(some 16), .pick (.t 12) (.c (.d (.sc (.bool true)))) (.t 15), none, 0, 0⟩] false)
    (.cond (.t 16)
     (.seq
      (.region [⟨(some 2), .mov (.c (.d (.sc (.bool true)))), none, 0, 0⟩] false)
      .ret)
     .skip))
   (.seq
    (.seq
     (.region [⟨(some 3), .mov (.c (.d (.sc (.int .i64 0)))), none, 0, 0⟩] false)
     (.block 0
      (.loop
       (.seq
        (.seq
         (.region [⟨(some 17), .mov (.t 3), none, 0, 0⟩,
           ⟨(some 18), .mov (.t 0), none, 0, 0⟩,
           ⟨(some 19), .len (.t 18), none, 0, 0⟩,
           ⟨(some 20), .bin .lss (.t 17) (.t 19), none, 0, 0⟩] false)
         (.cond (.t 20)
          .skip
          (.exit 0)))
        (.seq
         (.block 1
          (.seq
           (.region [⟨(some 23), .mov (.t 0), none, 0, 0⟩,
             ⟨(some 24), .mov (.t 3), none, 0, 0⟩,
             ⟨(some 25), .indexAddr 7 (.t 23) (.t 24), none, 0, 0⟩,
             ⟨(some 26), .fieldAddr 1 (.t 25), none, 0, 0⟩,
             ⟨(some 27), .load 5 true (.t 26), none, 0, 0⟩,
             ⟨(some 28), .callF 52 [(.t 27)], none, 0, 0⟩] false)
           (.cond (.t 28)
            (.seq
             (.region [⟨(some 2), .mov (.c (.d (.sc (.bool true)))), none, 0, 0⟩] false)
             .ret)
            .skip)))
         (.region [⟨(some 21), .mov (.t 3), none, 0, 0⟩,
           ⟨(some 22), .bin .add (.t 21) (.c (.d (.sc (.int .i64 1)))), none, 0, 0⟩,
           ⟨(some 3), .mov (.t 22), none, 0, 0⟩] false))))))
    (.seq
     (.region [⟨(some 2), .mov (.c (.d (.sc (.bool false)))), none, 0, 0⟩] false)
     .ret)))), false⟩
/-- wreckage/wreckageref38.GreatFrame -/
def t51 : AFn := ⟨1, 26, [.t 2],
 (.seq
  (.region [⟨(some 1), .box (.t 0), none, 0, 0⟩,
    ⟨(some 2), .mov (.c (.d (.sc (.bool false)))), none, 0, 0⟩] false)
  (.seq
   (.seq
    (.region [⟨(some 3), .mov (.c (.d (.sc (.int .i64 0)))), none, 0, 0⟩] false)
    (.block 0
     (.loop
      (.seq
       (.seq
        (.region [⟨(some 4), .mov (.t 3), none, 0, 0⟩,
          ⟨(some 5), .fieldAddr 3 (.t 1), none, 0, 0⟩,
          ⟨(some 6), .load 1 false (.t 5), none, 0, 0⟩,
          ⟨(some 7), .len (.t 6), none, 0, 0⟩,
          ⟨(some 8), .bin .lss (.t 4) (.t 7), none, 0, 0⟩,
          ⟨(some 9), .mov (.t 8), none, 0, 0⟩,
          ⟨(some 10), .mov (.t 3), (some (9, true)), 0, 0⟩,
          ⟨(some 11), .bin .leq (.t 10) (.c (.d (.sc (.int .i64 20)))), (some (9, true)), 0, 0⟩,
          ⟨(some 12), .pick (.t 9) (.t 11) (.c (.d (.sc (.bool false)))), none, 0, 0⟩] false)
        (.cond (.t 12)
         .skip
         (.exit 0)))
       (.seq
        (.block 1
         (.seq
          (.region [⟨(some 15), .fieldAddr 3 (.t 1), none, 0, 0⟩,
            ⟨(some 16), .load 1 false (.t 15), none, 0, 0⟩,
            ⟨(some 17), .mov (.t 3), none, 0, 0⟩,
            ⟨(some 18), .indexAddr 6 (.t 16) (.t 17), none, 0, 0⟩,
            ⟨(some 19), .fieldAddr 1 (.t 18), none, 0, 0⟩,
            ⟨(some 20), .load 5 true (.t 19), none, 0, 0⟩,
            ⟨(some 21), .callF 52 [(.t 20)], none, 0, 0⟩] false)
          (.cond (.t 21)
           (.seq
            (.region [⟨(some 2), .mov (.c (.d (.sc (.bool true)))), none, 0, 0⟩] false)
            .ret)
           .skip)))
        (.region [⟨(some 13), .mov (.t 3), none, 0, 0⟩,
          ⟨(some 14), .bin .add (.t 13) (.c (.d (.sc (.int .i64 1)))), none, 0, 0⟩,
          ⟨(some 3), .mov (.t 14), none, 0, 0⟩] false))))))
   (.seq
    (.region [⟨(some 22), .fieldAddr 3 (.t 1), none, 0, 0⟩,
      ⟨(some 23), .load 1 false (.t 22), none, 0, 0⟩,
      ⟨(some 24), .len (.t 23), none, 0, 0⟩,
      ⟨(some 25), .bin .gtr (.t 24) (.c (.d (.sc (.int .i64 20)))), none, 0, 0⟩,
      ⟨(some 2), .mov (.t 25), none, 0, 0⟩] false)
    .ret))), false⟩
/-- wreckage/wreckageref40.GreatRoutine -/
def t24 : AFn := ⟨1, 53, [.t 2],
 (.seq
  (.region [⟨(some 1), .box (.t 0), none, 0, 0⟩,
    ⟨(some 2), .mov (.c (.d (.sc (.bool false)))), none, 0, 0⟩] false)
  (.seq
   (.seq
    (.region [⟨(some 5), .fieldAddr 2 (.t 1), none, 0, 0⟩,
      ⟨(some 6), .load 1 false (.t 5), none, 0, 0⟩,
      ⟨(some 7), .len (.t 6), none, 0, 0⟩,
      ⟨(some 8), .bin .gtr (.t 7) (.c (.d (.sc (.int .i64 12)))), none, 0, 0⟩,
      ⟨(some 9), .mov (.t 8), none, 0, 0⟩,
      ⟨(some 10), .fieldAddr 3 (.t 1), (some (9, false)), 0, 0⟩,
      ⟨(some 11), .load 1 false (.t 10), (some (9, false)), 0, 0⟩,
      ⟨(some 12), .len (.t 11), (some (9, false)), 0, 0⟩,
      ⟨(some 13), .bin .gtr (.t 12) (.c (.d (.sc (.int .i64 12)))), (some (9, false)), 0, 0⟩,
      ⟨(some 14), .pick (.t 9) (.c (.d (.sc (.bool true)))) (.t 13), none, 0, 0⟩,
      ⟨(some 15), .mov (.t 14), none, 0, 0⟩,
      ⟨(some 16), .fieldAddr 4 (.t 1), (some (15, false)), 0, 0⟩,
      ⟨(some 17), .load 1 false (.t 16), (some (15, false)), 0, 0⟩,
      ⟨(some 18), .len (.t 17), (some (15, false)), 0, 0⟩,
      ⟨(some 19), .bin .gtr (.t 18) (.c (.d (.sc (.int .i64 20)))), (some (15, false)), 0, 0⟩,
      ⟨(some 20), .pick (.t 15) (.c (.d (.sc (.bool true)))) (.t 19), none, 0, 0⟩,
      ⟨(some 21), .mov (.t 20), none, 0, 0⟩,
      ⟨(some 22), .fieldAddr 4 (.t 1), (some (21, false)), 0, 0⟩,
      ⟨(some 23), .load 1 false (.t 22), (some (21, false)), 0, 0⟩,
      ⟨(some 24), .callF 50 [(.t 23)], (some (21, false)), 0, 0⟩,
      ⟨(some 25), .pick (.t 21) (.c (.d (.sc (.bool true)))) (.t 24), none, 0, 0⟩] false)
    (.cond (.t 25)
     (.seq
      (.region [⟨(some 2), .mov (.c (.d (.sc (.bool true)))), none, 0, 0⟩] false)
      .ret)
     .skip))
   (.seq
    (.seq
     (.region [⟨(some 3), .mov (.c (.d (.sc (.int .i64 0)))), none, 0, 0⟩] false)
     (.block 0
      (.loop
       (.seq
        (.seq
         (.region [⟨(some 26), .mov (.t 3), none, 0, 0⟩,
           ⟨(some 27), .fieldAddr 2 (.t 1), none, 0, 0⟩,
           ⟨(some 28), .load 1 false (.t 27), none, 0, 0⟩,
           ⟨(some 29), .len (.t 28), none, 0, 0⟩,
           ⟨(some 30), .bin .lss (.t 26) (.t 29), none, 0, 0⟩] false)
         (.cond (.t 30)
          .skip
          (.exit 0)))
        (.seq
         (.block 1
          (.seq
           (.region [⟨(some 33), .fieldAddr 2 (.t 1), none, 0, 0⟩,
             ⟨(some 34), .load 1 false (.t 33), none, 0, 0⟩,
             ⟨(some 35), .mov (.t 3), none, 0, 0⟩,
             ⟨(some 36), .indexAddr 4 (.t 34) (.t 35), none, 0, 0⟩,
             ⟨(some 37), .load 4 true (.t 36), none, 0, 0⟩,
             ⟨(some 38), .callF 51 [(.t 37)], none, 0, 0⟩] false)
           (.cond (.t 38)
            (.seq
             (.region [⟨(some 2), .mov (.c (.d (.sc (.bool true)))), none, 0, 0⟩] false)
             .ret)
            .skip)))
         (.region [⟨(some 31), .mov (.t 3), none, 0, 0⟩,
           ⟨(some 32), .bin .add (.t 31) (.c (.d (.sc (.int .i64 1)))), none, 0, 0⟩,
           ⟨(some 3), .mov (.t 32), none, 0, 0⟩] false))))))
    (.seq
     (.seq
      (.region [⟨(some 4), .mov (.c (.d (.sc (.int .i64 0)))), none, 0, 0⟩] false)
      (.block 2
       (.loop
        (.seq
         (.seq
          (.region [⟨(some 39), .mov (.t 4), none, 0, 0⟩,
            ⟨(some 40), .fieldAddr 3 (.t 1), none, 0, 0⟩,
            ⟨(some 41), .load 1 false (.t 40), none, 0, 0⟩,
            ⟨(some 42), .len (.t 41), none, 0, 0⟩,
            ⟨(some 43), .bin .lss (.t 39) (.t 42), none, 0, 0⟩] false)
          (.cond (.t 43)
           .skip
           (.exit 2)))
         (.seq
          (.block 3
           (.seq
            (.region [⟨(some 46), .fieldAddr 3 (.t 1), none, 0, 0⟩,
              ⟨(some 47), .load 1 false (.t 46), none, 0, 0⟩,
              ⟨(some 48), .mov (.t 4), none, 0, 0⟩,
              ⟨(some 49), .indexAddr 8 (.t 47) (.t 48), none, 0, 0⟩,
              ⟨(some 50), .fieldAddr 3 (.t 49), none, 0, 0⟩,
              ⟨(some 51), .load 5 true (.t 50), none, 0, 0⟩,
              ⟨(some 52), .callF 52 [(.t 51)], none, 0, 0⟩] false)
            (.cond (.t 52)
             (.seq
              (.region [⟨(some 2), .mov (.c (.d (.sc (.bool true)))), none, 0, 0⟩] false)
              .ret)
             .skip)))
          (.region [⟨(some 44), .mov (.t 4), none, 0, 0⟩,
            ⟨(some 45), .bin .add (.t 44) (.c (.d (.sc (.int .i64 1)))), none, 0, 0⟩,
            ⟨(some 4), .mov (.t 45), none, 0, 0⟩] false))))))
     (.seq
      (.region [⟨(some 2), .mov (.c (.d (.sc (.bool false)))), none, 0, 0⟩] false)
      .ret))))), false⟩
/-- wreckage/wreckageref40.Great -/
def t9 : AFn := ⟨1, 25, [.t 2],
 (.seq
  (.region [⟨(some 1), .box (.t 0), none, 0, 0⟩,
    ⟨(some 2), .mov (.c (.d (.sc (.bool false)))), none, 0, 0⟩] false)
  (.seq
   (.seq
    (.region [⟨(some 3), .mov (.c (.d (.sc (.int .i64 0)))), none, 0, 0⟩] false)
    (.block 0
     (.loop
      (.seq
       (.seq
        (.region [⟨(some 4), .mov (.t 3), none, 0, 0⟩,
          ⟨(some 5), .fieldAddr 3 (.t 1), none, 0, 0⟩,
          ⟨(some 6), .load 1 false (.t 5), none, 0, 0⟩,
          ⟨(some 7), .len (.t 6), none, 0, 0⟩,
          ⟨(some 8), .bin .lss (.t 4) (.t 7), none, 0, 0⟩,
          ⟨(some 9), .mov (.t 8), none, 0, 0⟩,
          ⟨(some 10), .mov (.t 3), (some (9, true)), 0, 0⟩,
          ⟨(some 11), .bin .leq (.t 10) (.c (.d (.sc (.int .i64 20)))), (some (9, true)), 0, 0⟩,
          ⟨(some 12), .pick (.t 9) (.t 11) (.c (.d (.sc (.bool false)))), none, 0, 0⟩] false)
        (.cond (.t 12)
         .skip
         (.exit 0)))
       (.seq
        (.block 1
         (.seq
          (.region [⟨(some 15), .fieldAddr 3 (.t 1), none, 0, 0⟩,
            ⟨(some 16), .load 1 false (.t 15), none, 0, 0⟩,
            ⟨(some 17), .mov (.t 3), none, 0, 0⟩,
            ⟨(some 18), .indexAddr 5 (.t 16) (.t 17), none, 0, 0⟩,
            ⟨(some 19), .load 5 true (.t 18), none, 0, 0⟩,
            ⟨(some 20), .callF 24 [(.t 19)], none, 0, 0⟩] false)
          (.cond (.t 20)
           (.seq
            (.region [⟨(some 2), .mov (.c (.d (.sc (.bool true)))), none, 0, 0⟩] false)
            .ret)
           .skip)))
        (.region [⟨(some 13), .mov (.t 3), none, 0, 0⟩,
          ⟨(some 14), .bin .add (.t 13) (.c (.d (.sc (.int .i64 1)))), none, 0, 0⟩,
          ⟨(some 3), .mov (.t 14), none, 0, 0⟩] false))))))
   (.seq
    (.region [⟨(some 21), .fieldAddr 3 (.t 1), none, 0, 0⟩,
      ⟨(some 22), .load 1 false (.t 21), none, 0, 0⟩,
      ⟨(some 23), .len (.t 22), none, 0, 0⟩,
      ⟨(some 24), .bin .gtr (.t 23) (.c (.d (.sc (.int .i64 20)))), none, 0, 0⟩,
      ⟨(some 2), .mov (.t 24), none, 0, 0⟩] false)
    .ret))), false⟩
/-- wreckage/wreckageref43.Great -/
def t17 : AFn := ⟨1, 33, [.t 2],
 (.seq
  (.region [⟨(some 2), .mov (.c (.d (.sc (.bool false)))), none, 0, 0⟩] false)
  (.seq
   (.seq
    (.region [⟨(some 3), .mov (.c (.d (.sc (.int .i64 0)))), none, 0, 0⟩] false)
    (.block 0
     (.loop
      (.seq
       (.seq
        (.region [⟨(some 4), .mov (.t 3), none, 0, 0⟩,
          ⟨(some 5), .mov (.t 0), none, 0, 0⟩,
          ⟨(some 6), .len (.t 5), none, 0, 0⟩,
          ⟨(some 7), .bin .lss (.t 4) (.t 6), none, 0, 0⟩,
          ⟨(some 8), .mov (.t 7), none, 0, 0⟩,
          ⟨(some 9), .mov (.t 3), (some (8, true)), 0, 0⟩,
          ⟨(some 10), .bin .leq (.t 9) (.c (.d (.sc (.int .i64 110)))), (some (8, true)), 0, 0⟩,
          ⟨(some 11), .pick (.t 8) (.t 10) (.c (.d (.sc (.bool false)))), none, 0, 0⟩] false)
        (.cond (.t 11)
         .skip
         (.exit 0)))
       (.seq
        (.block 1
         (.seq
          (.region [⟨(some 14), .mov (.t 0), none, 0, 0⟩,
            ⟨(some 15), .mov (.t 3), none, 0, 0⟩,
            ⟨(some 16), .indexAddr 11 (.t 14) (.t 15), none, 0, 0⟩,
            ⟨(some 17), .fieldAddr 6 (.t 16), none, 0, 0⟩,
            ⟨(some 18), .load 5 true (.t 17), none, 0, 0⟩,
            ⟨(some 19), .callF 24 [(.t 18)], none, 0, 0⟩] false)
          (.cond (.t 19)
           (.seq
            (.region [⟨(some 2), .mov (.c (.d (.sc (.bool true)))), none, 0, 0⟩] false)
            .ret)
           .skip)))
        (.region [⟨(some 12), .mov (.t 3), none, 0, 0⟩,
          ⟨(some 13), .bin .add (.t 12) (.c (.d (.sc (.int .i64 1)))), none, 0, 0⟩,
          ⟨(some 3), .mov (.t 13), none, 0, 0⟩] false))))))
   (.seq
    (.region [⟨(some 20), .mov (.t 0), none, 0, 0⟩,
      ⟨(some 21), .len (.t 20), none, 0, 0⟩,
      ⟨(some 22), .bin .gtr (.t 21) (.c (.d (.sc (.int .i64 30)))), none, 0, 0⟩,
      ⟨(some 23), .mov (.t 22), none, 0, 0⟩,
      ⟨(some 24), .mov (.t 0), (some (23, true)), 0, 0⟩,
      ⟨(some 25), .len (.t 24), (some (23, true)), 0, 0⟩,
      ⟨(some 26), .bin .leq (.t 25) (.c (.d (.sc (.int .i64 100)))), (some (23, true)), 0, 0⟩,
      ⟨(some 27), .pick (.t 23) (.t 26) (.c (.d (.sc (.bool false)))), none, 0, 0⟩,
      ⟨(some 28), .mov (.t 27), none, 0, 0⟩,
      ⟨(some 29), .mov (.t 0), (some (28, false)), 0, 0⟩,
      ⟨(some 30), .len (.t 29), (some (28, false)), 0, 0⟩,
      ⟨(some 31), .bin .gtr (.t 30) (.c (.d (.sc (.int .i64 110)))), (some (28, false)), 0, 0⟩,
      ⟨(some 32), .pick (.t 28) (.c (.d (.sc (.bool true)))) (.t 31), none, 0, 0⟩,
      ⟨(some 2), .mov (.t 32), none, 0, 0⟩] false)
    .ret))), false⟩
/-- slices.IndexFunc[[]wreckage/api.RoutineState,wreckage/api.RoutineState] -/
def t80 : AFn := ⟨2, 19, [.t 4],
 (.seq
  (.region [⟨(some 4), .mov (.c (.d (.sc (.int .i64 0)))), none, 0, 0⟩] false)
  (.seq
   (.seq
    (.region [⟨(some 6), .mov (.t 0), none, 0, 0⟩,
      ⟨(some 7), .len (.t 6), none, 0, 0⟩,
      ⟨(some 8), .mov (.c (.d (.sc (.int .i64 0)))), none, 0, 0⟩] false)
    (.block 0
     (.loop
      (.seq
       (.region [⟨(some 9), .bin .lss (.t 8) (.t 7), none, 0, 0⟩] false)
       (.seq
        (.cond (.t 9)
         .skip
         (.exit 0))
        (.seq
         (.block 1
          (.seq
           (.region [⟨(some 10), .mov (.t 8), none, 0, 0⟩,
             ⟨(some 5), .mov (.t 10), none, 0, 0⟩] false)
           (.seq
            (.region [⟨(some 11), .mov (.t 1), none, 0, 0⟩,
              ⟨(some 12), .mov (.t 0), none, 0, 0⟩,
              ⟨(some 13), .mov (.t 5), none, 0, 0⟩,
              ⟨(some 14), .indexAddr 5 (.t 12) (.t 13), none, 0, 0⟩,
              ⟨(some 15), .load 5 true (.t 14), none, 0, 0⟩,
              ⟨(some 16), .callv (.t 11) [(.t 15)], none, 0, 0⟩] false)
            (.cond (.t 16)
             (.seq
              (.region [⟨(some 17), .mov (.t 5), none, 0, 0⟩,
                ⟨(some 4), .mov (.t 17), none, 0, 0⟩] false)
              .ret)
             .skip))))
         (.region [⟨(some 18), .bin .add (.t 8) (.c (.d (.sc (.int .i64 1)))), none, 0, 0⟩,
           ⟨(some 8), .mov (.t 18), none, 0, 0⟩] false)))))))
   (.seq
    (.region [⟨(some 4), .mov (.c (.d (.sc (.int .i64 (-1))))), none, 0, 0⟩] false)
    .ret))), true⟩
/-- slices.ContainsFunc[[]wreckage/api.RoutineState,wreckage/api.RoutineState] -/
def t56 : AFn := ⟨2, 9, [.t 4],
 (.seq
  (.region [⟨(some 4), .mov (.c (.d (.sc (.bool false)))), none, 0, 0⟩] false)
  (.seq
   (.region [⟨(some 5), .mov (.t 0), none, 0, 0⟩,
     ⟨(some 6), .mov (.t 1), none, 0, 0⟩,
     ⟨(some 7), .callF 80 [(.t 5), (.t 6)], none, 0, 0⟩,
     ⟨(some 8), .bin .geq (.t 7) (.c (.d (.sc (.int .i64 0)))), none, 0, 0⟩,
     ⟨(some 4), .mov (.t 8), none, 0, 0⟩] false)
   .ret)), true⟩
/-- wreckage/differ.fair -/
def t45 : AFn := ⟨1, 19, [.t 2],
 (.seq
  (.region [⟨(some 1), .box (.t 0), none, 0, 0⟩,
    ⟨(some 2), .mov (.c (.d (.sc (.bool false)))), none, 0, 0⟩] false)
  (.seq
   (.region [⟨(some 3), .fieldAddr 2 (.t 1), none, 0, 0⟩,
     ⟨(some 4), .load 1 false (.t 3), none, 0, 0⟩,
     ⟨(some 5), .len (.t 4), none, 0, 0⟩,
     ⟨(some 6), .bin .leq (.t 5) (.c (.d (.sc (.int .i64 170)))), none, 0, 0⟩,
     ⟨(some 7), .mov (.t 6), none, 0, 0⟩,
     ⟨(some 8), .fieldAddr 3 (.t 1), (some (7, true)), 0, 0⟩,
     ⟨(some 9), .load 1 false (.t 8), (some (7, true)), 0, 0⟩,
     ⟨(some 10), .len (.t 9), (some (7, true)), 0, 0⟩,
     ⟨(some 11), .bin .leq (.t 10) (.c (.d (.sc (.int .i64 410)))), (some (7, true)), 0, 0⟩,
     ⟨(some 12), .pick (.t 7) (.t 11) (.c (.d (.sc (.bool false)))), none, 0, 0⟩,
     ⟨(some 13), .mov (.t 12), none, 0, 0⟩,
     ⟨(some 14), .fieldAddr 4 (.t 1), (some (13, true)), 0, 0⟩,
     ⟨(some 15), .load 1 false (.t 14), (some (13, true)), 0, 0⟩,
     ⟨(some 16), .len (.t 15), (some (13, true)), 0, 0⟩,
     ⟨(some 17), .bin .leq (.t 16) (.c (.d (.sc (.int .i64 410)))), (some (13, true)), 0, 0⟩,
     ⟨(some 18), .pick (.t 13) (.t 17) (.c (.d (.sc (.bool false)))), none, 0, 0⟩,
     ⟨(some 2), .mov (.t 18), none, 0, 0⟩] false)
   .ret)), false⟩
/-- wreckage/differ.whole$1 -/
def t57 : AFn := ⟨1, 6, [.t 2],
 (.seq
  (.region [⟨(some 1), .box (.t 0), none, 0, 0⟩,
    ⟨(some 2), .mov (.c (.d (.sc (.bool false)))), none, 0, 0⟩] false)
  (.seq
   (.region [⟨(some 3), .load 5 true (.t 1), none, 0, 0⟩,
     ⟨(some 4), .callF 45 [(.t 3)], none, 0, 0⟩,
     ⟨(some 5), .un .not (.t 4), none, 0, 0⟩,
     ⟨(some 2), .mov (.t 5), none, 0, 0⟩] false)
   .ret)), false⟩
/-- wreckage/differ.whole -/
def t31 : AFn := ⟨1, 21, [.t 2],
 (.seq
  (.region [⟨(some 2), .mov (.c (.d (.sc (.bool false)))), none, 0, 0⟩] false)
  (.seq
   (.seq
    (.region [⟨(some 5), .mov (.t 0), none, 0, 0⟩,
      ⟨(some 6), .len (.t 5), none, 0, 0⟩,
      ⟨(some 7), .mov (.c (.d (.sc (.int .i64 0)))), none, 0, 0⟩] false)
    (.block 0
     (.loop
      (.seq
       (.region [⟨(some 8), .bin .lss (.t 7) (.t 6), none, 0, 0⟩] false)
       (.seq
        (.cond (.t 8)
         .skip
         (.exit 0))
        (.seq
         (.block 1
          (.seq
           (.region [⟨(some 9), .indexAddr 4 (.t 5) (.t 7), none, 0, 0⟩,
             ⟨(some 10), .load 4 true (.t 9), none, 0, 0⟩,
             ⟨(some 4), .alloc [(.d (.sc (.int .u8 0))), (.d (.sc (.int .i64 0))), (.d (.sc (.int .i64 0))), (.own [] .full)], none, 0, 0⟩,
             ⟨none, .store 4 (.t 4) (.t 10), none, 0, 0⟩] false)
           (.seq
            (.region [⟨(some 11), .fieldAddr 3 (.t 4), none, 0, 0⟩,
              ⟨(some 12), .load 1 false (.t 11), none, 0, 0⟩,
              ⟨(some 13), .len (.t 12), none, 0, 0⟩,
              ⟨(some 14), .bin .gtr (.t 13) (.c (.d (.sc (.int .i64 16)))), none, 0, 0⟩,
              ⟨(some 15), .mov (.t 14), none, 0, 0⟩,
              ⟨(some 16), .fieldAddr 3 (.t 4), (some (15, false)), 0, 0⟩,
              ⟨(some 17), .load 1 false (.t 16), (some (15, false)), 0, 0⟩,
              ⟨(some 18), .callF 56 [(.t 17), (.c (.clo 57 []))], (some (15, false)), 0, 0⟩,
              ⟨(some 19), .pick (.t 15) (.c (.d (.sc (.bool true)))) (.t 18), none, 0, 0⟩] false)
            (.cond (.t 19)
             (.seq
              (.region [⟨(some 2), .mov (.c (.d (.sc (.bool false)))), none, 0, 0⟩] false)
              .ret)
             .skip))))
         (.region [⟨(some 20), .bin .add (.t 7) (.c (.d (.sc (.int .i64 1)))), none, 0, 0⟩,
           ⟨(some 7), .mov (.t 20), none, 0, 0⟩] false)))))))
   (.seq
    (.region [⟨(some 2), .mov (.c (.d (.sc (.bool true)))), none, 0, 0⟩] false)
    .ret))), false⟩
/-- slices.IndexFunc[[]wreckage/api.Edit,wreckage/api.Edit] -/
def t85 : AFn := ⟨2, 19, [.t 4],
 (.seq
  (.region [⟨(some 4), .mov (.c (.d (.sc (.int .i64 0)))), none, 0, 0⟩] false)
  (.seq
   (.seq
    (.region [⟨(some 6), .mov (.t 0), none, 0, 0⟩,
      ⟨(some 7), .len (.t 6), none, 0, 0⟩,
      ⟨(some 8), .mov (.c (.d (.sc (.int .i64 0)))), none, 0, 0⟩] false)
    (.block 0
     (.loop
      (.seq
       (.region [⟨(some 9), .bin .lss (.t 8) (.t 7), none, 0, 0⟩] false)
       (.seq
        (.cond (.t 9)
         .skip
         (.exit 0))
        (.seq
         (.block 1
          (.seq
           (.region [⟨(some 10), .mov (.t 8), none, 0, 0⟩,
             ⟨(some 5), .mov (.t 10), none, 0, 0⟩] false)
           (.seq
            (.region [⟨(some 11), .mov (.t 1), none, 0, 0⟩,
              ⟨(some 12), .mov (.t 0), none, 0, 0⟩,
              ⟨(some 13), .mov (.t 5), none, 0, 0⟩,
              ⟨(some 14), .indexAddr 11 (.t 12) (.t 13), none, 0, 0⟩,
              ⟨(some 15), .load 11 true (.t 14), none, 0, 0⟩,
              ⟨(some 16), .callv (.t 11) [(.t 15)], none, 0, 0⟩] false)
            (.cond (.t 16)
             (.seq
              (.region [⟨(some 17), .mov (.t 5), none, 0, 0⟩,
                ⟨(some 4), .mov (.t 17), none, 0, 0⟩] false)
              .ret)
             .skip))))
         (.region [⟨(some 18), .bin .add (.t 8) (.c (.d (.sc (.int .i64 1)))), none, 0, 0⟩,
           ⟨(some 8), .mov (.t 18), none, 0, 0⟩] false)))))))
   (.seq
    (.region [⟨(some 4), .mov (.c (.d (.sc (.int .i64 (-1))))), none, 0, 0⟩] false)
    .ret))), true⟩
/-- slices.ContainsFunc[[]wreckage/api.Edit,wreckage/api.Edit] -/
def t71 : AFn := ⟨2, 9, [.t 4],
 (.seq
  (.region [⟨(some 4), .mov (.c (.d (.sc (.bool false)))), none, 0, 0⟩] false)
  (.seq
   (.region [⟨(some 5), .mov (.t 0), none, 0, 0⟩,
     ⟨(some 6), .mov (.t 1), none, 0, 0⟩,
     ⟨(some 7), .callF 85 [(.t 5), (.t 6)], none, 0, 0⟩,
     ⟨(some 8), .bin .geq (.t 7) (.c (.d (.sc (.int .i64 0)))), none, 0, 0⟩,
     ⟨(some 4), .mov (.t 8), none, 0, 0⟩] false)
   .ret)), true⟩
/-- slices.EqualFunc[[]wreckage/api.FrameState,[]wreckage/api.FrameState,wreckage/api.FrameState,wreckage/api.FrameState] -/
def t70 : AFn := ⟨3, 32, [.t 6],
 (.seq
  (.region [⟨(some 6), .mov (.c (.d (.sc (.bool false)))), none, 0, 0⟩] false)
  (.seq
   (.seq
    (.region [⟨(some 10), .mov (.t 0), none, 0, 0⟩,
      ⟨(some 11), .len (.t 10), none, 0, 0⟩,
      ⟨(some 12), .mov (.t 1), none, 0, 0⟩,
      ⟨(some 13), .len (.t 12), none, 0, 0⟩,
      ⟨(some 14), .bin .neq (.t 11) (.t 13), none, 0, 0⟩] false)
    (.cond (.t 14)
     (.seq
      (.region [⟨(some 6), .mov (.c (.d (.sc (.bool false)))), none, 0, 0⟩] false)
      .ret)
     .skip))
   (.seq
    (.seq
     (.region [⟨(some 15), .mov (.t 0), none, 0, 0⟩,
       ⟨(some 16), .len (.t 15), none, 0, 0⟩,
       ⟨(some 17), .mov (.c (.d (.sc (.int .i64 0)))), none, 0, 0⟩] false)
     (.block 0
      (.loop
       (.seq
        (.region [⟨(some 18), .bin .lss (.t 17) (.t 16), none, 0, 0⟩] false)
        (.seq
         (.cond (.t 18)
          .skip
          (.exit 0))
         (.seq
          (.block 1
           (.seq
            (.region [⟨(some 19), .mov (.t 17), none, 0, 0⟩,
              ⟨(some 20), .indexAddr 4 (.t 15) (.t 17), none, 0, 0⟩,
              ⟨(some 21), .load 4 true (.t 20), none, 0, 0⟩,
              ⟨(some 8), .alloc [(.d (.sc (.int .i64 0))), (.d (.sc (.int .i64 0))), (.d (.sc (.int .u64 0))), (.own [] .full)], none, 0, 0⟩,
              ⟨(some 7), .mov (.t 19), none, 0, 0⟩,
              ⟨none, .store 4 (.t 8) (.t 21), none, 0, 0⟩] false)
            (.seq
             (.region [⟨(some 22), .mov (.t 1), none, 0, 0⟩,
               ⟨(some 23), .mov (.t 7), none, 0, 0⟩,
               ⟨(some 24), .indexAddr 4 (.t 22) (.t 23), none, 0, 0⟩,
               ⟨(some 25), .load 4 true (.t 24), none, 0, 0⟩,
               ⟨(some 9), .alloc [(.d (.sc (.int .i64 0))), (.d (.sc (.int .i64 0))), (.d (.sc (.int .u64 0))), (.own [] .full)], none, 0, 0⟩,
               ⟨none, .store 4 (.t 9) (.t 25), none, 0, 0⟩] false)
             (.seq
              (.region [⟨(some 26), .mov (.t 2), none, 0, 0⟩,
                ⟨(some 27), .load 4 true (.t 8), none, 0, 0⟩,
                ⟨(some 28), .load 4 true (.t 9), none, 0, 0⟩,
                ⟨(some 29), .callv (.t 26) [(.t 27), (.t 28)], none, 0, 0⟩,
                ⟨(some 30), .un .not (.t 29), none, 0, 0⟩] false)
              (.cond (.t 30)
               (.seq
                (.region [⟨(some 6), .mov (.c (.d (.sc (.bool false)))), none, 0, 0⟩] false)
                .ret)
               .skip)))))
          (.region [⟨(some 31), .bin .add (.t 17) (.c (.d (.sc (.int .i64 1)))), none, 0, 0⟩,
            ⟨(some 17), .mov (.t 31), none, 0, 0⟩] false)))))))
    (.seq
     (.region [⟨(some 6), .mov (.c (.d (.sc (.bool true)))), none, 0, 0⟩] false)
     .ret)))), true⟩
/-- slices.EqualFunc[[]wreckage/api.Local,[]wreckage/api.Local,wreckage/api.Local,wreckage/api.Local] -/
def t81 : AFn := ⟨3, 32, [.t 6],
 (.seq
  (.region [⟨(some 6), .mov (.c (.d (.sc (.bool false)))), none, 0, 0⟩] false)
  (.seq
   (.seq
    (.region [⟨(some 10), .mov (.t 0), none, 0, 0⟩,
      ⟨(some 11), .len (.t 10), none, 0, 0⟩,
      ⟨(some 12), .mov (.t 1), none, 0, 0⟩,
      ⟨(some 13), .len (.t 12), none, 0, 0⟩,
      ⟨(some 14), .bin .neq (.t 11) (.t 13), none, 0, 0⟩] false)
    (.cond (.t 14)
     (.seq
      (.region [⟨(some 6), .mov (.c (.d (.sc (.bool false)))), none, 0, 0⟩] false)
      .ret)
     .skip))
   (.seq
    (.seq
     (.region [⟨(some 15), .mov (.t 0), none, 0, 0⟩,
       ⟨(some 16), .len (.t 15), none, 0, 0⟩,
       ⟨(some 17), .mov (.c (.d (.sc (.int .i64 0)))), none, 0, 0⟩] false)
     (.block 0
      (.loop
       (.seq
        (.region [⟨(some 18), .bin .lss (.t 17) (.t 16), none, 0, 0⟩] false)
        (.seq
         (.cond (.t 18)
          .skip
          (.exit 0))
         (.seq
          (.block 1
           (.seq
            (.region [⟨(some 19), .mov (.t 17), none, 0, 0⟩,
              ⟨(some 20), .indexAddr 6 (.t 15) (.t 17), none, 0, 0⟩,
              ⟨(some 21), .load 6 true (.t 20), none, 0, 0⟩,
              ⟨(some 8), .alloc [(.d (.sc (.int .i64 0))), (.d (.sc (.int .u8 0))), (.d (.sc (.int .i64 0))), (.d (.sc (.string ⟨#[]⟩))), (.own [] .full), (.d (.sc (.bool false)))], none, 0, 0⟩,
              ⟨(some 7), .mov (.t 19), none, 0, 0⟩,
              ⟨none, .store 6 (.t 8) (.t 21), none, 0, 0⟩] false)
            (.seq
             (.region [⟨(some 22), .mov (.t 1), none, 0, 0⟩,
               ⟨(some 23), .mov (.t 7), none, 0, 0⟩,
               ⟨(some 24), .indexAddr 6 (.t 22) (.t 23), none, 0, 0⟩,
               ⟨(some 25), .load 6 true (.t 24), none, 0, 0⟩,
               ⟨(some 9), .alloc [(.d (.sc (.int .i64 0))), (.d (.sc (.int .u8 0))), (.d (.sc (.int .i64 0))), (.d (.sc (.string ⟨#[]⟩))), (.own [] .full), (.d (.sc (.bool false)))], none, 0, 0⟩,
               ⟨none, .store 6 (.t 9) (.t 25), none, 0, 0⟩] false)
             (.seq
              (.region [⟨(some 26), .mov (.t 2), none, 0, 0⟩,
                ⟨(some 27), .load 6 true (.t 8), none, 0, 0⟩,
                ⟨(some 28), .load 6 true (.t 9), none, 0, 0⟩,
                ⟨(some 29), .callv (.t 26) [(.t 27), (.t 28)], none, 0, 0⟩,
                ⟨(some 30), .un .not (.t 29), none, 0, 0⟩] false)
              (.cond (.t 30)
               (.seq
                (.region [⟨(some 6), .mov (.c (.d (.sc (.bool false)))), none, 0, 0⟩] false)
                .ret)
               .skip)))))
          (.region [⟨(some 31), .bin .add (.t 17) (.c (.d (.sc (.int .i64 1)))), none, 0, 0⟩,
            ⟨(some 17), .mov (.t 31), none, 0, 0⟩] false)))))))
    (.seq
     (.region [⟨(some 6), .mov (.c (.d (.sc (.bool true)))), none, 0, 0⟩] false)
     .ret)))), true⟩
/-- slices.EqualFunc[[]wreckage/api.Value,[]wreckage/api.Value,wreckage/api.Value,wreckage/api.Value] -/
def t98 : AFn := ⟨3, 32, [.t 6],
 (.seq
  (.region [⟨(some 6), .mov (.c (.d (.sc (.bool false)))), none, 0, 0⟩] false)
  (.seq
   (.seq
    (.region [⟨(some 10), .mov (.t 0), none, 0, 0⟩,
      ⟨(some 11), .len (.t 10), none, 0, 0⟩,
      ⟨(some 12), .mov (.t 1), none, 0, 0⟩,
      ⟨(some 13), .len (.t 12), none, 0, 0⟩,
      ⟨(some 14), .bin .neq (.t 11) (.t 13), none, 0, 0⟩] false)
    (.cond (.t 14)
     (.seq
      (.region [⟨(some 6), .mov (.c (.d (.sc (.bool false)))), none, 0, 0⟩] false)
      .ret)
     .skip))
   (.seq
    (.seq
     (.region [⟨(some 15), .mov (.t 0), none, 0, 0⟩,
       ⟨(some 16), .len (.t 15), none, 0, 0⟩,
       ⟨(some 17), .mov (.c (.d (.sc (.int .i64 0)))), none, 0, 0⟩] false)
     (.block 0
      (.loop
       (.seq
        (.region [⟨(some 18), .bin .lss (.t 17) (.t 16), none, 0, 0⟩] false)
        (.seq
         (.cond (.t 18)
          .skip
          (.exit 0))
         (.seq
          (.block 1
           (.seq
            (.region [⟨(some 19), .mov (.t 17), none, 0, 0⟩,
              ⟨(some 20), .indexAddr 5 (.t 15) (.t 17), none, 0, 0⟩,
              ⟨(some 21), .load 5 true (.t 20), none, 0, 0⟩,
              ⟨(some 8), .alloc [(.d (.sc (.int .u8 0))), (.d (.sc (.int .i64 0))), (.d (.sc (.string ⟨#[]⟩))), (.own [] .full), (.d (.sc (.bool false)))], none, 0, 0⟩,
              ⟨(some 7), .mov (.t 19), none, 0, 0⟩,
              ⟨none, .store 5 (.t 8) (.t 21), none, 0, 0⟩] false)
            (.seq
             (.region [⟨(some 22), .mov (.t 1), none, 0, 0⟩,
               ⟨(some 23), .mov (.t 7), none, 0, 0⟩,
               ⟨(some 24), .indexAddr 5 (.t 22) (.t 23), none, 0, 0⟩,
               ⟨(some 25), .load 5 true (.t 24), none, 0, 0⟩,
               ⟨(some 9), .alloc [(.d (.sc (.int .u8 0))), (.d (.sc (.int .i64 0))), (.d (.sc (.string ⟨#[]⟩))), (.own [] .full), (.d (.sc (.bool false)))], none, 0, 0⟩,
               ⟨none, .store 5 (.t 9) (.t 25), none, 0, 0⟩] false)
             (.seq
              (.region [⟨(some 26), .mov (.t 2), none, 0, 0⟩,
                ⟨(some 27), .load 5 true (.t 8), none, 0, 0⟩,
                ⟨(some 28), .load 5 true (.t 9), none, 0, 0⟩,
                ⟨(some 29), .callv (.t 26) [(.t 27), (.t 28)], none, 0, 0⟩,
                ⟨(some 30), .un .not (.t 29), none, 0, 0⟩] false)
              (.cond (.t 30)
               (.seq
                (.region [⟨(some 6), .mov (.c (.d (.sc (.bool false)))), none, 0, 0⟩] false)
                .ret)
               .skip)))))
          (.region [⟨(some 31), .bin .add (.t 17) (.c (.d (.sc (.int .i64 1)))), none, 0, 0⟩,
            ⟨(some 17), .mov (.t 31), none, 0, 0⟩] false)))))))
    (.seq
     (.region [⟨(some 6), .mov (.c (.d (.sc (.bool true)))), none, 0, 0⟩] false)
     .ret)))), true⟩
/-- wreckage/differ.sameValue -/
def t83 : AFn := ⟨2, 38, [.t 4],
 (.seq
  (.region [⟨(some 2), .box (.t 0), none, 0, 0⟩,
    ⟨(some 3), .box (.t 1), none, 0, 0⟩,
    ⟨(some 4), .mov (.c (.d (.sc (.bool false)))), none, 0, 0⟩] false)
  (.seq
   (.region [⟨(some 5), .fieldAddr 0 (.t 2), none, 0, 0⟩,
     ⟨(some 6), .load 1 false (.t 5), none, 0, 0⟩,
     ⟨(some 7), .fieldAddr 0 (.t 3), none, 0, 0⟩,
     ⟨(some 8), .load 1 false (.t 7), none, 0, 0⟩,
     ⟨(some 9), .bin .eql (.t 6) (.t 8), none, 0, 0⟩,
     ⟨(some 10), .mov (.t 9), none, 0, 0⟩,
     ⟨(some 11), .fieldAddr 1 (.t 2), (some (10, true)), 0, 0⟩,
     ⟨(some 12), .load 1 false (.t 11), (some (10, true)), 0, 0⟩,
     ⟨(some 13), .fieldAddr 1 (.t 3), (some (10, true)), 0, 0⟩,
     ⟨(some 14), .load 1 false (.t 13), (some (10, true)), 0, 0⟩,
     ⟨(some 15), .bin .eql (.t 12) (.t 14), (some (10, true)), 0, 0⟩,
     ⟨(some 16), .pick (.t 10) (.t 15) (.c (.d (.sc (.bool false)))), none, 0, 0⟩,
     ⟨(some 17), .mov (.t 16), none, 0, 0⟩,
     ⟨(some 18), .fieldAddr 2 (.t 2), (some (17, true)), 0, 0⟩,
     ⟨(some 19), .load 1 false (.t 18), (some (17, true)), 0, 0⟩,
     ⟨(some 20), .fieldAddr 2 (.t 3), (some (17, true)), 0, 0⟩,
     ⟨(some 21), .load 1 false (.t 20), (some (17, true)), 0, 0⟩,
     ⟨(some 22), .bin .eql (.t 19) (.t 21), (some (17, true)), 0, 0⟩,
     ⟨(some 23), .pick (.t 17) (.t 22) (.c (.d (.sc (.bool false)))), none, 0, 0⟩,
     ⟨(some 24), .mov (.t 23), none, 0, 0⟩,
     ⟨(some 25), .fieldAddr 4 (.t 2), (some (24, true)), 0, 0⟩,
     ⟨(some 26), .load 1 false (.t 25), (some (24, true)), 0, 0⟩,
     ⟨(some 27), .fieldAddr 4 (.t 3), (some (24, true)), 0, 0⟩,
     ⟨(some 28), .load 1 false (.t 27), (some (24, true)), 0, 0⟩,
     ⟨(some 29), .eqb false (.t 26) (.t 28), (some (24, true)), 0, 0⟩,
     ⟨(some 30), .pick (.t 24) (.t 29) (.c (.d (.sc (.bool false)))), none, 0, 0⟩,
     ⟨(some 31), .mov (.t 30), none, 0, 0⟩,
     ⟨(some 32), .fieldAddr 3 (.t 2), (some (31, true)), 0, 0⟩,
     ⟨(some 33), .load 1 false (.t 32), (some (31, true)), 0, 0⟩,
     ⟨(some 34), .fieldAddr 3 (.t 3), (some (31, true)), 0, 0⟩,
     ⟨(some 35), .load 1 false (.t 34), (some (31, true)), 0, 0⟩,
     ⟨(some 36), .callF 98 [(.t 33), (.t 35), (.c (.clo 83 []))], (some (31, true)), 0, 0⟩,
     ⟨(some 37), .pick (.t 31) (.t 36) (.c (.d (.sc (.bool false)))), none, 0, 0⟩,
     ⟨(some 4), .mov (.t 37), none, 0, 0⟩] false)
   .ret)), false⟩
/-- wreckage/differ.sameFrame$1 -/
def t82 : AFn := ⟨2, 17, [.t 4],
 (.seq
  (.region [⟨(some 2), .box (.t 0), none, 0, 0⟩,
    ⟨(some 3), .box (.t 1), none, 0, 0⟩,
    ⟨(some 4), .mov (.c (.d (.sc (.bool false)))), none, 0, 0⟩] false)
  (.seq
   (.region [⟨(some 5), .fieldAddr 0 (.t 2), none, 0, 0⟩,
     ⟨(some 6), .load 1 false (.t 5), none, 0, 0⟩,
     ⟨(some 7), .fieldAddr 0 (.t 3), none, 0, 0⟩,
     ⟨(some 8), .load 1 false (.t 7), none, 0, 0⟩,
     ⟨(some 9), .bin .eql (.t 6) (.t 8), none, 0, 0⟩,
     ⟨(some 10), .mov (.t 9), none, 0, 0⟩,
     ⟨(some 11), .fieldAddr 1 (.t 2), (some (10, true)), 0, 0⟩,
     ⟨(some 12), .load 5 true (.t 11), (some (10, true)), 0, 0⟩,
     ⟨(some 13), .fieldAddr 1 (.t 3), (some (10, true)), 0, 0⟩,
     ⟨(some 14), .load 5 true (.t 13), (some (10, true)), 0, 0⟩,
     ⟨(some 15), .callF 83 [(.t 12), (.t 14)], (some (10, true)), 0, 0⟩,
     ⟨(some 16), .pick (.t 10) (.t 15) (.c (.d (.sc (.bool false)))), none, 0, 0⟩,
     ⟨(some 4), .mov (.t 16), none, 0, 0⟩] false)
   .ret)), false⟩
/-- wreckage/differ.sameFrame -/
def t59 : AFn := ⟨2, 31, [.t 4],
 (.seq
  (.region [⟨(some 2), .box (.t 0), none, 0, 0⟩,
    ⟨(some 3), .box (.t 1), none, 0, 0⟩,
    ⟨(some 4), .mov (.c (.d (.sc (.bool false)))), none, 0, 0⟩] false)
  (.seq
   (.region [⟨(some 5), .fieldAddr 0 (.t 2), none, 0, 0⟩,
     ⟨(some 6), .load 1 false (.t 5), none, 0, 0⟩,
     ⟨(some 7), .fieldAddr 0 (.t 3), none, 0, 0⟩,
     ⟨(some 8), .load 1 false (.t 7), none, 0, 0⟩,
     ⟨(some 9), .bin .eql (.t 6) (.t 8), none, 0, 0⟩,
     ⟨(some 10), .mov (.t 9), none, 0, 0⟩,
     ⟨(some 11), .fieldAddr 1 (.t 2), (some (10, true)), 0, 0⟩,
     ⟨(some 12), .load 1 false (.t 11), (some (10, true)), 0, 0⟩,
     ⟨(some 13), .fieldAddr 1 (.t 3), (some (10, true)), 0, 0⟩,
     ⟨(some 14), .load 1 false (.t 13), (some (10, true)), 0, 0⟩,
     ⟨(some 15), .bin .eql (.t 12) (.t 14), (some (10, true)), 0, 0⟩,
     ⟨(some 16), .pick (.t 10) (.t 15) (.c (.d (.sc (.bool false)))), none, 0, 0⟩,
     ⟨(some 17), .mov (.t 16), none, 0, 0⟩,
     ⟨(some 18), .fieldAddr 2 (.t 2), (some (17, true)), 0, 0⟩,
     ⟨(some 19), .load 1 false (.t 18), (some (17, true)), 0, 0⟩,
     ⟨(some 20), .fieldAddr 2 (.t 3), (some (17, true)), 0, 0⟩,
     ⟨(some 21), .load 1 false (.t 20), (some (17, true)), 0, 0⟩,
     ⟨(some 22), .bin .eql (.t 19) (.t 21), (some (17, true)), 0, 0⟩,
     ⟨(some 23), .pick (.t 17) (.t 22) (.c (.d (.sc (.bool false)))), none, 0, 0⟩,
     ⟨(some 24), .mov (.t 23), none, 0, 0⟩,
     ⟨(some 25), .fieldAddr 3 (.t 2), (some (24, true)), 0, 0⟩,
     ⟨(some 26), .load 1 false (.t 25), (some (24, true)), 0, 0⟩,
     ⟨(some 27), .fieldAddr 3 (.t 3), (some (24, true)), 0, 0⟩,
     ⟨(some 28), .load 1 false (.t 27), (some (24, true)), 0, 0⟩,
     ⟨(some 29), .callF 81 [(.t 26), (.t 28), (.c (.clo 82 []))], (some (24, true)), 0, 0⟩,
     ⟨(some 30), .pick (.t 24) (.t 29) (.c (.d (.sc (.bool false)))), none, 0, 0⟩,
     ⟨(some 4), .mov (.t 30), none, 0, 0⟩] false)
   .ret)), false⟩
/-- slices.EqualFunc[[]wreckage/api.DeferState,[]wreckage/api.DeferState,wreckage/api.DeferState,wreckage/api.DeferState] -/
def t60 : AFn := ⟨3, 32, [.t 6],
 (.seq
  (.region [⟨(some 6), .mov (.c (.d (.sc (.bool false)))), none, 0, 0⟩] false)
  (.seq
   (.seq
    (.region [⟨(some 10), .mov (.t 0), none, 0, 0⟩,
      ⟨(some 11), .len (.t 10), none, 0, 0⟩,
      ⟨(some 12), .mov (.t 1), none, 0, 0⟩,
      ⟨(some 13), .len (.t 12), none, 0, 0⟩,
      ⟨(some 14), .bin .neq (.t 11) (.t 13), none, 0, 0⟩] false)
    (.cond (.t 14)
     (.seq
      (.region [⟨(some 6), .mov (.c (.d (.sc (.bool false)))), none, 0, 0⟩] false)
      .ret)
     .skip))
   (.seq
    (.seq
     (.region [⟨(some 15), .mov (.t 0), none, 0, 0⟩,
       ⟨(some 16), .len (.t 15), none, 0, 0⟩,
       ⟨(some 17), .mov (.c (.d (.sc (.int .i64 0)))), none, 0, 0⟩] false)
     (.block 0
      (.loop
       (.seq
        (.region [⟨(some 18), .bin .lss (.t 17) (.t 16), none, 0, 0⟩] false)
        (.seq
         (.cond (.t 18)
          .skip
          (.exit 0))
         (.seq
          (.block 1
           (.seq
            (.region [⟨(some 19), .mov (.t 17), none, 0, 0⟩,
              ⟨(some 20), .indexAddr 8 (.t 15) (.t 17), none, 0, 0⟩,
              ⟨(some 21), .load 8 true (.t 20), none, 0, 0⟩,
              ⟨(some 8), .alloc [(.d (.sc (.int .i64 0))), (.d (.sc (.int .i64 0))), (.d (.sc (.bool false))), (.d (.sc (.int .u8 0))), (.d (.sc (.int .i64 0))), (.d (.sc (.string ⟨#[]⟩))), (.own [] .full), (.d (.sc (.bool false)))], none, 0, 0⟩,
              ⟨(some 7), .mov (.t 19), none, 0, 0⟩,
              ⟨none, .store 8 (.t 8) (.t 21), none, 0, 0⟩] false)
            (.seq
             (.region [⟨(some 22), .mov (.t 1), none, 0, 0⟩,
               ⟨(some 23), .mov (.t 7), none, 0, 0⟩,
               ⟨(some 24), .indexAddr 8 (.t 22) (.t 23), none, 0, 0⟩,
               ⟨(some 25), .load 8 true (.t 24), none, 0, 0⟩,
               ⟨(some 9), .alloc [(.d (.sc (.int .i64 0))), (.d (.sc (.int .i64 0))), (.d (.sc (.bool false))), (.d (.sc (.int .u8 0))), (.d (.sc (.int .i64 0))), (.d (.sc (.string ⟨#[]⟩))), (.own [] .full), (.d (.sc (.bool false)))], none, 0, 0⟩,
               ⟨none, .store 8 (.t 9) (.t 25), none, 0, 0⟩] false)
             (.seq
              (.region [⟨(some 26), .mov (.t 2), none, 0, 0⟩,
                ⟨(some 27), .load 8 true (.t 8), none, 0, 0⟩,
                ⟨(some 28), .load 8 true (.t 9), none, 0, 0⟩,
                ⟨(some 29), .callv (.t 26) [(.t 27), (.t 28)], none, 0, 0⟩,
                ⟨(some 30), .un .not (.t 29), none, 0, 0⟩] false)
              (.cond (.t 30)
               (.seq
                (.region [⟨(some 6), .mov (.c (.d (.sc (.bool false)))), none, 0, 0⟩] false)
                .ret)
               .skip)))))
          (.region [⟨(some 31), .bin .add (.t 17) (.c (.d (.sc (.int .i64 1)))), none, 0, 0⟩,
            ⟨(some 17), .mov (.t 31), none, 0, 0⟩] false)))))))
    (.seq
     (.region [⟨(some 6), .mov (.c (.d (.sc (.bool true)))), none, 0, 0⟩] false)
     .ret)))), true⟩
/-- wreckage/differ.sameDefer -/
def t61 : AFn := ⟨2, 31, [.t 4],
 (.seq
  (.region [⟨(some 2), .box (.t 0), none, 0, 0⟩,
    ⟨(some 3), .box (.t 1), none, 0, 0⟩,
    ⟨(some 4), .mov (.c (.d (.sc (.bool false)))), none, 0, 0⟩] false)
  (.seq
   (.region [⟨(some 5), .fieldAddr 0 (.t 2), none, 0, 0⟩,
     ⟨(some 6), .load 1 false (.t 5), none, 0, 0⟩,
     ⟨(some 7), .fieldAddr 0 (.t 3), none, 0, 0⟩,
     ⟨(some 8), .load 1 false (.t 7), none, 0, 0⟩,
     ⟨(some 9), .bin .eql (.t 6) (.t 8), none, 0, 0⟩,
     ⟨(some 10), .mov (.t 9), none, 0, 0⟩,
     ⟨(some 11), .fieldAddr 1 (.t 2), (some (10, true)), 0, 0⟩,
     ⟨(some 12), .load 1 false (.t 11), (some (10, true)), 0, 0⟩,
     ⟨(some 13), .fieldAddr 1 (.t 3), (some (10, true)), 0, 0⟩,
     ⟨(some 14), .load 1 false (.t 13), (some (10, true)), 0, 0⟩,
     ⟨(some 15), .bin .eql (.t 12) (.t 14), (some (10, true)), 0, 0⟩,
     ⟨(some 16), .pick (.t 10) (.t 15) (.c (.d (.sc (.bool false)))), none, 0, 0⟩,
     ⟨(some 17), .mov (.t 16), none, 0, 0⟩,
     ⟨(some 18), .fieldAddr 2 (.t 2), (some (17, true)), 0, 0⟩,
     ⟨(some 19), .load 1 false (.t 18), (some (17, true)), 0, 0⟩,
     ⟨(some 20), .fieldAddr 2 (.t 3), (some (17, true)), 0, 0⟩,
     ⟨(some 21), .load 1 false (.t 20), (some (17, true)), 0, 0⟩,
     ⟨(some 22), .eqb false (.t 19) (.t 21), (some (17, true)), 0, 0⟩,
     ⟨(some 23), .pick (.t 17) (.t 22) (.c (.d (.sc (.bool false)))), none, 0, 0⟩,
     ⟨(some 24), .mov (.t 23), none, 0, 0⟩,
     ⟨(some 25), .fieldAddr 3 (.t 2), (some (24, true)), 0, 0⟩,
     ⟨(some 26), .load 5 true (.t 25), (some (24, true)), 0, 0⟩,
     ⟨(some 27), .fieldAddr 3 (.t 3), (some (24, true)), 0, 0⟩,
     ⟨(some 28), .load 5 true (.t 27), (some (24, true)), 0, 0⟩,
     ⟨(some 29), .callF 83 [(.t 26), (.t 28)], (some (24, true)), 0, 0⟩,
     ⟨(some 30), .pick (.t 24) (.t 29) (.c (.d (.sc (.bool false)))), none, 0, 0⟩,
     ⟨(some 4), .mov (.t 30), none, 0, 0⟩] false)
   .ret)), false⟩
/-- slices.EqualFunc[[]wreckage/api.PanicState,[]wreckage/api.PanicState,wreckage/api.PanicState,wreckage/api.PanicState] -/
def t62 : AFn := ⟨3, 32, [.t 6],
 (.seq
  (.region [⟨(some 6), .mov (.c (.d (.sc (.bool false)))), none, 0, 0⟩] false)
  (.seq
   (.seq
    (.region [⟨(some 10), .mov (.t 0), none, 0, 0⟩,
      ⟨(some 11), .len (.t 10), none, 0, 0⟩,
      ⟨(some 12), .mov (.t 1), none, 0, 0⟩,
      ⟨(some 13), .len (.t 12), none, 0, 0⟩,
      ⟨(some 14), .bin .neq (.t 11) (.t 13), none, 0, 0⟩] false)
    (.cond (.t 14)
     (.seq
      (.region [⟨(some 6), .mov (.c (.d (.sc (.bool false)))), none, 0, 0⟩] false)
      .ret)
     .skip))
   (.seq
    (.seq
     (.region [⟨(some 15), .mov (.t 0), none, 0, 0⟩,
       ⟨(some 16), .len (.t 15), none, 0, 0⟩,
       ⟨(some 17), .mov (.c (.d (.sc (.int .i64 0)))), none, 0, 0⟩] false)
     (.block 0
      (.loop
       (.seq
        (.region [⟨(some 18), .bin .lss (.t 17) (.t 16), none, 0, 0⟩] false)
        (.seq
         (.cond (.t 18)
          .skip
          (.exit 0))
         (.seq
          (.block 1
           (.seq
            (.region [⟨(some 19), .mov (.t 17), none, 0, 0⟩,
              ⟨(some 20), .indexAddr 7 (.t 15) (.t 17), none, 0, 0⟩,
              ⟨(some 21), .load 7 true (.t 20), none, 0, 0⟩,
              ⟨(some 8), .alloc [(.d (.sc (.int .u64 0))), (.d (.sc (.int .u8 0))), (.d (.sc (.int .i64 0))), (.d (.sc (.string ⟨#[]⟩))), (.own [] .full), (.d (.sc (.bool false))), (.d (.sc (.int .u64 0)))], none, 0, 0⟩,
              ⟨(some 7), .mov (.t 19), none, 0, 0⟩,
              ⟨none, .store 7 (.t 8) (.t 21), none, 0, 0⟩] false)
            (.seq
             (.region [⟨(some 22), .mov (.t 1), none, 0, 0⟩,
               ⟨(some 23), .mov (.t 7), none, 0, 0⟩,
               ⟨(some 24), .indexAddr 7 (.t 22) (.t 23), none, 0, 0⟩,
               ⟨(some 25), .load 7 true (.t 24), none, 0, 0⟩,
               ⟨(some 9), .alloc [(.d (.sc (.int .u64 0))), (.d (.sc (.int .u8 0))), (.d (.sc (.int .i64 0))), (.d (.sc (.string ⟨#[]⟩))), (.own [] .full), (.d (.sc (.bool false))), (.d (.sc (.int .u64 0)))], none, 0, 0⟩,
               ⟨none, .store 7 (.t 9) (.t 25), none, 0, 0⟩] false)
             (.seq
              (.region [⟨(some 26), .mov (.t 2), none, 0, 0⟩,
                ⟨(some 27), .load 7 true (.t 8), none, 0, 0⟩,
                ⟨(some 28), .load 7 true (.t 9), none, 0, 0⟩,
                ⟨(some 29), .callv (.t 26) [(.t 27), (.t 28)], none, 0, 0⟩,
                ⟨(some 30), .un .not (.t 29), none, 0, 0⟩] false)
              (.cond (.t 30)
               (.seq
                (.region [⟨(some 6), .mov (.c (.d (.sc (.bool false)))), none, 0, 0⟩] false)
                .ret)
               .skip)))))
          (.region [⟨(some 31), .bin .add (.t 17) (.c (.d (.sc (.int .i64 1)))), none, 0, 0⟩,
            ⟨(some 17), .mov (.t 31), none, 0, 0⟩] false)))))))
    (.seq
     (.region [⟨(some 6), .mov (.c (.d (.sc (.bool true)))), none, 0, 0⟩] false)
     .ret)))), true⟩
/-- wreckage/differ.samePanic -/
def t63 : AFn := ⟨2, 24, [.t 4],
 (.seq
  (.region [⟨(some 2), .box (.t 0), none, 0, 0⟩,
    ⟨(some 3), .box (.t 1), none, 0, 0⟩,
    ⟨(some 4), .mov (.c (.d (.sc (.bool false)))), none, 0, 0⟩] false)
  (.seq
   (.region [⟨(some 5), .fieldAddr 0 (.t 2), none, 0, 0⟩,
     ⟨(some 6), .load 1 false (.t 5), none, 0, 0⟩,
     ⟨(some 7), .fieldAddr 0 (.t 3), none, 0, 0⟩,
     ⟨(some 8), .load 1 false (.t 7), none, 0, 0⟩,
     ⟨(some 9), .bin .eql (.t 6) (.t 8), none, 0, 0⟩,
     ⟨(some 10), .mov (.t 9), none, 0, 0⟩,
     ⟨(some 11), .fieldAddr 6 (.t 2), (some (10, true)), 0, 0⟩,
     ⟨(some 12), .load 1 false (.t 11), (some (10, true)), 0, 0⟩,
     ⟨(some 13), .fieldAddr 6 (.t 3), (some (10, true)), 0, 0⟩,
     ⟨(some 14), .load 1 false (.t 13), (some (10, true)), 0, 0⟩,
     ⟨(some 15), .bin .eql (.t 12) (.t 14), (some (10, true)), 0, 0⟩,
     ⟨(some 16), .pick (.t 10) (.t 15) (.c (.d (.sc (.bool false)))), none, 0, 0⟩,
     ⟨(some 17), .mov (.t 16), none, 0, 0⟩,
     ⟨(some 18), .fieldAddr 1 (.t 2), (some (17, true)), 0, 0⟩,
     ⟨(some 19), .load 5 true (.t 18), (some (17, true)), 0, 0⟩,
     ⟨(some 20), .fieldAddr 1 (.t 3), (some (17, true)), 0, 0⟩,
     ⟨(some 21), .load 5 true (.t 20), (some (17, true)), 0, 0⟩,
     ⟨(some 22), .callF 83 [(.t 19), (.t 21)], (some (17, true)), 0, 0⟩,
     ⟨(some 23), .pick (.t 17) (.t 22) (.c (.d (.sc (.bool false)))), none, 0, 0⟩,
     ⟨(some 4), .mov (.t 23), none, 0, 0⟩] false)
   .ret)), false⟩
/-- wreckage/differ.sameRoutine -/
def t37 : AFn := ⟨2, 38, [.t 4],
 (.seq
  (.region [⟨(some 2), .box (.t 0), none, 0, 0⟩,
    ⟨(some 3), .box (.t 1), none, 0, 0⟩,
    ⟨(some 4), .mov (.c (.d (.sc (.bool false)))), none, 0, 0⟩] false)
  (.seq
   (.region [⟨(some 5), .fieldAddr 0 (.t 2), none, 0, 0⟩,
     ⟨(some 6), .load 1 false (.t 5), none, 0, 0⟩,
     ⟨(some 7), .fieldAddr 0 (.t 3), none, 0, 0⟩,
     ⟨(some 8), .load 1 false (.t 7), none, 0, 0⟩,
     ⟨(some 9), .bin .eql (.t 6) (.t 8), none, 0, 0⟩,
     ⟨(some 10), .mov (.t 9), none, 0, 0⟩,
     ⟨(some 11), .fieldAddr 1 (.t 2), (some (10, true)), 0, 0⟩,
     ⟨(some 12), .load 1 false (.t 11), (some (10, true)), 0, 0⟩,
     ⟨(some 13), .fieldAddr 1 (.t 3), (some (10, true)), 0, 0⟩,
     ⟨(some 14), .load 1 false (.t 13), (some (10, true)), 0, 0⟩,
     ⟨(some 15), .bin .eql (.t 12) (.t 14), (some (10, true)), 0, 0⟩,
     ⟨(some 16), .pick (.t 10) (.t 15) (.c (.d (.sc (.bool false)))), none, 0, 0⟩,
     ⟨(some 17), .mov (.t 16), none, 0, 0⟩,
     ⟨(some 18), .fieldAddr 2 (.t 2), (some (17, true)), 0, 0⟩,
     ⟨(some 19), .load 1 false (.t 18), (some (17, true)), 0, 0⟩,
     ⟨(some 20), .fieldAddr 2 (.t 3), (some (17, true)), 0, 0⟩,
     ⟨(some 21), .load 1 false (.t 20), (some (17, true)), 0, 0⟩,
     ⟨(some 22), .callF 70 [(.t 19), (.t 21), (.c (.clo 59 []))], (some (17, true)), 0, 0⟩,
     ⟨(some 23), .pick (.t 17) (.t 22) (.c (.d (.sc (.bool false)))), none, 0, 0⟩,
     ⟨(some 24), .mov (.t 23), none, 0, 0⟩,
     ⟨(some 25), .fieldAddr 3 (.t 2), (some (24, true)), 0, 0⟩,
     ⟨(some 26), .load 1 false (.t 25), (some (24, true)), 0, 0⟩,
     ⟨(some 27), .fieldAddr 3 (.t 3), (some (24, true)), 0, 0⟩,
     ⟨(some 28), .load 1 false (.t 27), (some (24, true)), 0, 0⟩,
     ⟨(some 29), .callF 60 [(.t 26), (.t 28), (.c (.clo 61 []))], (some (24, true)), 0, 0⟩,
     ⟨(some 30), .pick (.t 24) (.t 29) (.c (.d (.sc (.bool false)))), none, 0, 0⟩,
     ⟨(some 31), .mov (.t 30), none, 0, 0⟩,
     ⟨(some 32), .fieldAddr 4 (.t 2), (some (31, true)), 0, 0⟩,
     ⟨(some 33), .load 1 false (.t 32), (some (31, true)), 0, 0⟩,
     ⟨(some 34), .fieldAddr 4 (.t 3), (some (31, true)), 0, 0⟩,
     ⟨(some 35), .load 1 false (.t 34), (some (31, true)), 0, 0⟩,
     ⟨(some 36), .callF 62 [(.t 33), (.t 35), (.c (.clo 63 []))], (some (31, true)), 0, 0⟩,
     ⟨(some 37), .pick (.t 31) (.t 36) (.c (.d (.sc (.bool false)))), none, 0, 0⟩,
     ⟨(some 4), .mov (.t 37), none, 0, 0⟩] false)
   .ret)), false⟩
/-- wreckage/differ.Check -/
def t21 : AFn := ⟨1, 101, [.t 2],
 (.seq
  (.region [⟨(some 1), .box (.t 0), none, 0, 0⟩,
    ⟨(some 2), .mov (.c (.d (.sc (.int .i64 0)))), none, 0, 0⟩] false)
  (.seq
   (.region [⟨(some 5), .fieldAddr 6 (.t 1), none, 0, 0⟩,
     ⟨(some 6), .load 5 true (.t 5), none, 0, 0⟩,
     ⟨(some 3), .alloc [(.d (.sc (.int .u8 0))), (.d (.sc (.int .i64 0))), (.own [] .full), (.own [] .full), (.own [] .full)], none, 0, 0⟩,
     ⟨none, .store 5 (.t 3) (.t 6), none, 0, 0⟩] false)
   (.seq
    (.seq
     (.region [⟨(some 7), .load 5 true (.t 3), none, 0, 0⟩,
       ⟨(some 8), .callF 45 [(.t 7)], none, 0, 0⟩,
       ⟨(some 9), .un .not (.t 8), none, 0, 0⟩,
       ⟨(some 10), .mov (.t 9), none, 0, 0⟩,
       ⟨(some 11), .fieldAddr 1 (.t 1), (some (10, false)), 0, 0⟩,
       ⟨(some 12), .load 1 false (.t 11), (some (10, false)), 0, 0⟩,
       ⟨(some 13), .bin .lss (.t 12) (.c (.d (.sc (.int .i64 0)))), (some (10, false)), 0, 0⟩,
       ⟨(some 14), .pick (.t 10) (.c (.d (.sc (.bool true)))) (.t 13), none, 0, 0⟩,
       ⟨(some 15), .mov (.t 14), none, 0, 0⟩,
       ⟨(some 16), .fieldAddr 1 (.t 1), (some (15, false)), 0, 0⟩,
       ⟨(some 17), .load 1 false (.t 16), (some (15, false)), 0, 0⟩,
       ⟨(some 18), .bin .geq (.t 17) (.c (.d (.sc (.int .i64 16)))), (some (15, false)), 0, 0⟩,
       ⟨(some 19), .pick (.t 15) (.c (.d (.sc (.bool true)))) (.t 18), none, 0, 0⟩,
       ⟨(some 20), .mov (.t 19), none, 0, 0⟩,
       ⟨(some 21), .fieldAddr 2 (.t 1), (some (20, false)), 0, 0⟩,
       ⟨(some 22), .load 1 false (.t 21), (some (20, false)), 0, 0⟩,
       ⟨(some 23), .bin .lss (.t 22) (.c (.d (.sc (.int .i64 0)))), (some (20, false)), 0, 0⟩,
       ⟨(some 24), .pick (.t 20) (.c (.d (.sc (.bool true)))) (.t 23), none, 0, 0⟩,
       ⟨(some 25), .mov (.t 24), none, 0, 0⟩,
       ⟨(some 26), .fieldAddr 2 (.t 1), (some (25, false)), 0, 0⟩,
       ⟨(some 27), .load 1 false (.t 26), (some (25, false)), 0, 0⟩,
       ⟨(some 28), .bin .gtr (.t 27) (.c (.d (.sc (.int .i64 170)))), (some (25, false)), 0, 0⟩,
       ⟨(some 29), .pick (.t 25) (.c (.d (.sc (.bool true)))) (.t 28), none, 0, 0⟩] false)
     (.cond (.t 29)
      (.seq
       (.region [⟨(some 2), .mov (.c (.d (.sc (.int .i64 8)))), none, 0, 0⟩] false)
       .ret)
      .skip))
    (.seq
     (.region [⟨(some 30), .load 11 true (.t 1), none, 0, 0⟩,
       ⟨(some 4), .alloc [(.d (.sc (.int .u8 0))), (.d (.sc (.int .i64 0))), (.d (.sc (.int .i64 0))), (.d (.sc (.int .u8 0))), (.d (.sc (.int .i64 0))), (.d (.sc (.int .i64 0))), (.d (.sc (.int .u8 0))), (.d (.sc (.int .i64 0))), (.own [] .full), (.own [] .full), (.own [] .full)], none, 0, 0⟩,
       ⟨none, .store 11 (.t 4) (.t 30), none, 0, 0⟩] false)
     (.seq
      (.region [⟨(some 31), .fieldAddr 0 (.t 4), none, 0, 0⟩,
        ⟨none, .store 1 (.t 31) (.c (.d (.sc (.int .u8 0)))), none, 0, 0⟩,
        ⟨(some 32), .fieldAddr 1 (.t 4), none, 0, 0⟩,
        ⟨none, .store 1 (.t 32) (.c (.d (.sc (.int .i64 0)))), none, 0, 0⟩] false)
      (.seq
       (.seq
        (.region [⟨(some 33), .fieldAddr 0 (.t 1), none, 0, 0⟩,
          ⟨(some 34), .load 1 false (.t 33), none, 0, 0⟩] false)
        (.block 0
         (.seq
          (.region [⟨(some 36), .bin .eql (.t 34) (.c (.d (.sc (.int .u8 1)))), none, 0, 0⟩,
            ⟨(some 35), .mov (.t 36), none, 0, 0⟩] false)
          (.cond (.t 35)
           (.seq
            (.region [⟨(some 37), .fieldAddr 1 (.t 1), none, 0, 0⟩,
              ⟨(some 38), .load 1 false (.t 37), none, 0, 0⟩,
              ⟨(some 39), .fieldAddr 1 (.t 4), none, 0, 0⟩,
              ⟨none, .store 1 (.t 39) (.t 38), none, 0, 0⟩] false)
            (.region [⟨(some 40), .fieldAddr 3 (.t 4), none, 0, 0⟩,
              ⟨none, .store 1 (.t 40) (.c (.d (.sc (.int .u8 0)))), none, 0, 0⟩,
              ⟨(some 41), .fieldAddr 4 (.t 4), none, 0, 0⟩,
              ⟨none, .store 1 (.t 41) (.c (.d (.sc (.int .i64 0)))), none, 0, 0⟩,
              ⟨(some 42), .fieldAddr 5 (.t 4), none, 0, 0⟩,
              ⟨none, .store 1 (.t 42) (.c (.d (.sc (.int .i64 0)))), none, 0, 0⟩] false))
           (.seq
            (.region [⟨(some 44), .bin .eql (.t 34) (.c (.d (.sc (.int .u8 2)))), none, 0, 0⟩,
              ⟨(some 43), .mov (.t 44), none, 0, 0⟩] false)
            (.cond (.t 43)
             (.region [⟨(some 45), .fieldAddr 6 (.t 4), none, 0, 0⟩,
               ⟨(some 46), .fieldAddr 0 (.t 45), none, 0, 0⟩,
               ⟨none, .store 1 (.t 46) (.c (.d (.sc (.int .u8 0)))), none, 0, 0⟩,
               ⟨(some 47), .fieldAddr 6 (.t 4), none, 0, 0⟩,
               ⟨(some 48), .fieldAddr 1 (.t 47), none, 0, 0⟩,
               ⟨none, .store 1 (.t 48) (.c (.d (.sc (.int .i64 0)))), none, 0, 0⟩] false)
             (.seq
              (.region [⟨(some 50), .bin .eql (.t 34) (.c (.d (.sc (.int .u8 3)))), none, 0, 0⟩,
                ⟨(some 49), .mov (.t 50), none, 0, 0⟩] false)
              (.cond (.t 49)
               (.region [⟨(some 51), .fieldAddr 2 (.t 4), none, 0, 0⟩,
                 ⟨none, .store 1 (.t 51) (.c (.d (.sc (.int .i64 0)))), none, 0, 0⟩,
                 ⟨(some 52), .fieldAddr 6 (.t 4), none, 0, 0⟩,
                 ⟨(some 53), .fieldAddr 2 (.t 52), none, 0, 0⟩,
                 ⟨none, .store 1 (.t 53) (.c (.own [] .full)), none, 0, 0⟩] false)
               (.seq
                (.region [⟨(some 55), .bin .eql (.t 34) (.c (.d (.sc (.int .u8 4)))), none, 0, 0⟩,
                  ⟨(some 54), .mov (.t 55), none, 0, 0⟩] false)
                (.cond (.t 54)
                 (.region [⟨(some 56), .fieldAddr 6 (.t 4), none, 0, 0⟩,
                   ⟨(some 57), .fieldAddr 3 (.t 56), none, 0, 0⟩,
                   ⟨none, .store 1 (.t 57) (.c (.own [] .full)), none, 0, 0⟩] false)
                 (.seq
                  (.region [⟨(some 59), .bin .eql (.t 34) (.c (.d (.sc (.int .u8 5)))), none, 0, 0⟩,
                    ⟨(some 58), .mov (.t 59), none, 0, 0⟩] false)
                  (.cond (.t 58)
                   (.region [⟨(some 60), .fieldAddr 6 (.t 4), none, 0, 0⟩,
                     ⟨(some 61), .fieldAddr 4 (.t 60), none, 0, 0⟩,
                     ⟨none, .store 1 (.t 61) (.c (.own [] .full)), none, 0, 0⟩] false)
                   (.seq
                    (.region [⟨(some 63), .bin .eql (.t 34) (.c (.d (.sc (.int .u8 6)))), none, 0, 0⟩,
                      ⟨(some 62), .mov (.t 63), none, 0, 0⟩] false)
                    (.cond (.t 62)
                     .skip
                     (.seq
                      (.region [⟨(some 65), .bin .eql (.t 34) (.c (.d (.sc (.int .u8 7)))), none, 0, 0⟩,
                        ⟨(some 64), .mov (.t 65), none, 0, 0⟩] false)
                      (.cond (.t 64)
                       (.region [⟨(some 66), .fieldAddr 1 (.t 1), none, 0, 0⟩,
                         ⟨(some 67), .load 1 false (.t 66), none, 0, 0⟩,
                         ⟨(some 68), .build [(.d (.sc (.int .u8 0))), (.d (.sc (.int .i64 0))), (.own [] .full), (.own [] .full), (.own [] .full)] [], none, 0, 0⟩,
                         ⟨(some 69), .fieldAddr 1 (.t 4), none, 0, 0⟩,
                         ⟨none, .store 1 (.t 69) (.t 67), none, 0, 0⟩,
                         ⟨(some 70), .fieldAddr 6 (.t 4), none, 0, 0⟩,
                         ⟨none, .store 5 (.t 70) (.t 68), none, 0, 0⟩] false)
                       (.seq
                        (.region [⟨(some 2), .mov (.c (.d (.sc (.int .i64 8)))), none, 0, 0⟩] false)
                        .ret)))))))))))))))))
       (.seq
        (.seq
         (.region [⟨(some 71), .fieldAddr 1 (.t 4), none, 0, 0⟩,
           ⟨(some 72), .load 1 false (.t 71), none, 0, 0⟩,
           ⟨(some 73), .bin .neq (.t 72) (.c (.d (.sc (.int .i64 0)))), none, 0, 0⟩,
           ⟨(some 74), .mov (.t 73), none, 0, 0⟩,
           ⟨(some 75), .fieldAddr 2 (.t 4), (some (74, false)), 0, 0⟩,
           ⟨(some 76), .load 1 false (.t 75), (some (74, false)), 0, 0⟩,
           ⟨(some 77), .bin .neq (.t 76) (.c (.d (.sc (.int .i64 0)))), (some (74, false)), 0, 0⟩,
           ⟨(some 78), .pick (.t 74) (.c (.d (.sc (.bool true)))) (.t 77), none, 0, 0⟩,
           ⟨(some 79), .mov (.t 78), none, 0, 0⟩,
           ⟨(some 80), .fieldAddr 3 (.t 4), (some (79, false)), 0, 0⟩,
           ⟨(some 81), .load 1 false (.t 80), (some (79, false)), 0, 0⟩,
           ⟨(some 82), .bin .neq (.t 81) (.c (.d (.sc (.int .u8 0)))), (some (79, false)), 0, 0⟩,
           ⟨(some 83), .pick (.t 79) (.c (.d (.sc (.bool true)))) (.t 82), none, 0, 0⟩,
           ⟨(some 84), .mov (.t 83), none, 0, 0⟩,
           ⟨(some 85), .fieldAddr 4 (.t 4), (some (84, false)), 0, 0⟩,
           ⟨(some 86), .load 1 false (.t 85), (some (84, false)), 0, 0⟩,
           ⟨(some 87), .bin .neq (.t 86) (.c (.d (.sc (.int .i64 0)))), (some (84, false)), 0, 0⟩,
           ⟨(some 88), .pick (.t 84) (.c (.d (.sc (.bool true)))) (.t 87), none, 0, 0⟩,
           ⟨(some 89), .mov (.t 88), none, 0, 0⟩,
           ⟨(some 90), .fieldAddr 5 (.t 4), (some (89, false)), 0, 0⟩,
           ⟨(some 91), .load 1 false (.t 90), (some (89, false)), 0, 0⟩,
           ⟨(some 92), .bin .neq (.t 91) (.c (.d (.sc (.int .i64 0)))), (some (89, false)), 0, 0⟩,
           ⟨(some 93), .pick (.t 89) (.c (.d (.sc (.bool true)))) (.t 92), none, 0, 0⟩,
           ⟨(some 94), .mov (.t 93), none, 0, 0⟩,
           ⟨(some 95), .fieldAddr 6 (.t 4), (some (94, false)), 0, 0⟩,
           ⟨(some 96), .load 5 true (.t 95), (some (94, false)), 0, 0⟩,
           ⟨(some 97), .build [(.d (.sc (.int .u8 0))), (.d (.sc (.int .i64 0))), (.own [] .full), (.own [] .full), (.own [] .full)] [], (some (94, false)), 0, 0⟩,
           ⟨(some 98), .callF 37 [(.t 96), (.t 97)], (some (94, false)), 0, 0⟩,
           ⟨(some 99), .un .not (.t 98), (some (94, false)), 0, 0⟩,
           ⟨(some 100), .pick (.t 94) (.c (.d (.sc (.bool true)))) (.t 99), none, 0, 0⟩] false)
         (.cond (.t 100)
          (.seq
           (.region [⟨(some 2), .mov (.c (.d (.sc (.int .i64 8)))), none, 0, 0⟩] false)
           .ret)
          .skip))
        (.seq
         (.region [⟨(some 2), .mov (.c (.d (.sc (.int .i64 0)))), none, 0, 0⟩] false)
         .ret)))))))), false⟩
/-- wreckage/differ.check$1 -/
def t72 : AFn := ⟨1, 6, [.t 2],
 (.seq
  (.region [⟨(some 1), .box (.t 0), none, 0, 0⟩,
    ⟨(some 2), .mov (.c (.d (.sc (.bool false)))), none, 0, 0⟩] false)
  (.seq
   (.region [⟨(some 3), .load 11 true (.t 1), none, 0, 0⟩,
     ⟨(some 4), .callF 21 [(.t 3)], none, 0, 0⟩,
     ⟨(some 5), .bin .neq (.t 4) (.c (.d (.sc (.int .i64 0)))), none, 0, 0⟩,
     ⟨(some 2), .mov (.t 5), none, 0, 0⟩] false)
   .ret)), false⟩
/-- wreckage/differ.check -/
def t41 : AFn := ⟨1, 8, [.t 2],
 (.seq
  (.region [⟨(some 2), .mov (.c (.d (.sc (.int .i64 0)))), none, 0, 0⟩] false)
  (.seq
   (.seq
    (.region [⟨(some 3), .mov (.t 0), none, 0, 0⟩,
      ⟨(some 4), .len (.t 3), none, 0, 0⟩,
      ⟨(some 5), .bin .gtr (.t 4) (.c (.d (.sc (.int .i64 100)))), none, 0, 0⟩] false)
    (.cond (.t 5)
     (.seq
      (.region [⟨(some 2), .mov (.c (.d (.sc (.int .i64 4)))), none, 0, 0⟩] false)
      .ret)
     .skip))
   (.seq
    (.seq
     (.region [⟨(some 6), .mov (.t 0), none, 0, 0⟩,
       ⟨(some 7), .callF 71 [(.t 6), (.c (.clo 72 []))], none, 0, 0⟩] false)
     (.cond (.t 7)
      (.seq
       (.region [⟨(some 2), .mov (.c (.d (.sc (.int .i64 8)))), none, 0, 0⟩] false)
       .ret)
      .skip))
    (.seq
     (.region [⟨(some 2), .mov (.c (.d (.sc (.int .i64 0)))), none, 0, 0⟩] false)
     .ret)))), false⟩
/-- wreckage/differ.copyValue -/
def t68 : AFn := ⟨1, 25, [.cell 2 5 true],
 (.seq
  (.region [⟨(some 1), .box (.t 0), none, 0, 0⟩,
    ⟨(some 2), .alloc [(.d (.sc (.int .u8 0))), (.d (.sc (.int .i64 0))), (.d (.sc (.string ⟨#[]⟩))), (.own [] .full), (.d (.sc (.bool false)))], none, 0, 0⟩] false)
  (.seq
   (.region [⟨(some 5), .fieldAddr 3 (.t 1), none, 0, 0⟩,
     ⟨(some 6), .load 1 false (.t 5), none, 0, 0⟩,
     ⟨(some 7), .clone 5 64 (.t 6), none, 0, 1⟩,
     ⟨(some 8), .fieldAddr 3 (.t 1), none, 0, 0⟩,
     ⟨none, .store 1 (.t 8) (.t 7), none, 0, 0⟩] false)
   (.seq
    (.seq
     (.region [⟨(some 9), .fieldAddr 3 (.t 1), none, 0, 0⟩,
       ⟨(some 10), .load 1 false (.t 9), none, 0, 0⟩,
       ⟨(some 11), .len (.t 10), none, 0, 0⟩,
       ⟨(some 12), .mov (.c (.d (.sc (.int .i64 0)))), none, 0, 0⟩] false)
     (.block 0
      (.loop
       (.seq
        (.region [⟨(some 13), .bin .lss (.t 12) (.t 11), none, 0, 0⟩] false)
        (.seq
         (.cond (.t 13)
          .skip
          (.exit 0))
         (.seq
          (.block 1
           (.seq
            (.region [⟨(some 14), .mov (.t 12), none, 0, 0⟩,
              ⟨(some 15), .indexAddr 5 (.t 10) (.t 12), none, 0, 0⟩,
              ⟨(some 16), .load 5 true (.t 15), none, 0, 0⟩,
              ⟨(some 4), .alloc [(.d (.sc (.int .u8 0))), (.d (.sc (.int .i64 0))), (.d (.sc (.string ⟨#[]⟩))), (.own [] .full), (.d (.sc (.bool false)))], none, 0, 0⟩,
              ⟨(some 3), .mov (.t 14), none, 0, 0⟩,
              ⟨none, .store 5 (.t 4) (.t 16), none, 0, 0⟩] false)
            (.region [⟨(some 17), .fieldAddr 3 (.t 1), none, 0, 0⟩,
              ⟨(some 18), .load 1 false (.t 17), none, 1, 0⟩,
              ⟨(some 19), .mov (.t 3), none, 0, 0⟩,
              ⟨(some 20), .load 5 true (.t 4), none, 0, 0⟩,
              ⟨(some 21), .call 68 [(.t 20)], none, 8, 0⟩,
              ⟨(some 22), .indexAddr 5 (.t 18) (.t 19), none, 31, 0⟩,
              ⟨none, .store 5 (.t 22) (.t 21), none, 63, 0⟩] true)))
          (.region [⟨(some 23), .bin .add (.t 12) (.c (.d (.sc (.int .i64 1)))), none, 0, 0⟩,
            ⟨(some 12), .mov (.t 23), none, 0, 0⟩] false)))))))
    (.seq
     (.region [⟨(some 24), .load 5 true (.t 1), none, 0, 0⟩,
       ⟨none, .store 5 (.t 2) (.t 24), none, 0, 0⟩] false)
     .ret)))), false⟩
/-- wreckage/differ.copyRoutine -/
def t33 : AFn := ⟨1, 95, [.cell 2 5 true],
 (.seq
  (.region [⟨(some 1), .box (.t 0), none, 0, 0⟩,
    ⟨(some 2), .alloc [(.d (.sc (.int .u8 0))), (.d (.sc (.int .i64 0))), (.own [] .full), (.own [] .full), (.own [] .full)], none, 0, 0⟩] false)
  (.seq
   (.region [⟨(some 8), .fieldAddr 2 (.t 1), none, 0, 0⟩,
     ⟨(some 9), .load 1 false (.t 8), none, 1, 0⟩,
     ⟨(some 10), .clone 4 48 (.t 9), none, 3, 1⟩,
     ⟨(some 11), .fieldAddr 3 (.t 1), none, 0, 0⟩,
     ⟨(some 12), .load 1 false (.t 11), none, 8, 0⟩,
     ⟨(some 13), .clone 8 88 (.t 12), none, 31, 1⟩,
     ⟨(some 14), .fieldAddr 4 (.t 1), none, 0, 0⟩,
     ⟨(some 15), .load 1 false (.t 14), none, 64, 0⟩,
     ⟨(some 16), .clone 7 80 (.t 15), none, 255, 1⟩,
     ⟨(some 17), .fieldAddr 2 (.t 1), none, 223, 0⟩,
     ⟨none, .store 1 (.t 17) (.t 10), none, 1023, 0⟩,
     ⟨(some 18), .fieldAddr 3 (.t 1), none, 2047, 0⟩,
     ⟨none, .store 1 (.t 18) (.t 13), none, 4095, 0⟩,
     ⟨(some 19), .fieldAddr 4 (.t 1), none, 8191, 0⟩,
     ⟨none, .store 1 (.t 19) (.t 16), none, 16383, 0⟩] true)
   (.seq
    (.seq
     (.region [⟨(some 20), .fieldAddr 2 (.t 1), none, 0, 0⟩,
       ⟨(some 21), .load 1 false (.t 20), none, 0, 0⟩,
       ⟨(some 22), .len (.t 21), none, 0, 0⟩,
       ⟨(some 23), .mov (.c (.d (.sc (.int .i64 0)))), none, 0, 0⟩] false)
     (.block 0
      (.loop
       (.seq
        (.region [⟨(some 24), .bin .lss (.t 23) (.t 22), none, 0, 0⟩] false)
        (.seq
         (.cond (.t 24)
          .skip
          (.exit 0))
         (.seq
          (.block 1
           (.seq
            (.region [⟨(some 25), .mov (.t 23), none, 0, 0⟩,
              ⟨(some 3), .mov (.t 25), none, 0, 0⟩] false)
            (.seq
             (.region [⟨(some 26), .fieldAddr 2 (.t 1), none, 0, 0⟩,
               ⟨(some 27), .load 1 false (.t 26), none, 0, 0⟩,
               ⟨(some 28), .mov (.t 3), none, 0, 0⟩,
               ⟨(some 29), .indexAddr 4 (.t 27) (.t 28), none, 0, 0⟩,
               ⟨(some 30), .fieldAddr 3 (.t 29), none, 0, 0⟩,
               ⟨(some 31), .load 1 false (.t 30), none, 0, 0⟩,
               ⟨(some 32), .clone 6 72 (.t 31), none, 0, 1⟩,
               ⟨(some 4), .mov (.t 32), none, 0, 0⟩] false)
             (.seq
              (.seq
               (.region [⟨(some 33), .mov (.t 4), none, 0, 0⟩,
                 ⟨(some 34), .len (.t 33), none, 0, 0⟩,
                 ⟨(some 35), .mov (.c (.d (.sc (.int .i64 0)))), none, 0, 0⟩] false)
               (.block 2
                (.loop
                 (.seq
                  (.region [⟨(some 36), .bin .lss (.t 35) (.t 34), none, 0, 0⟩] false)
                  (.seq
                   (.cond (.t 36)
                    .skip
                    (.exit 2))
                   (.seq
                    (.block 3
                     (.seq
                      (.region [⟨(some 37), .mov (.t 35), none, 0, 0⟩,
                        ⟨(some 5), .mov (.t 37), none, 0, 0⟩] false)
                      (.region [⟨(some 38), .mov (.t 4), none, 0, 0⟩,
                        ⟨(some 39), .mov (.t 5), none, 0, 0⟩,
                        ⟨(some 40), .mov (.t 4), none, 0, 0⟩,
                        ⟨(some 41), .mov (.t 5), none, 0, 0⟩,
                        ⟨(some 42), .indexAddr 6 (.t 40) (.t 41), none, 0, 0⟩,
                        ⟨(some 43), .fieldAddr 1 (.t 42), none, 0, 0⟩,
                        ⟨(some 44), .load 5 true (.t 43), none, 0, 0⟩,
                        ⟨(some 45), .call 68 [(.t 44)], none, 0, 0⟩,
                        ⟨(some 46), .indexAddr 6 (.t 38) (.t 39), none, 0, 0⟩,
                        ⟨(some 47), .fieldAddr 1 (.t 46), none, 0, 0⟩,
                        ⟨none, .store 5 (.t 47) (.t 45), none, 0, 0⟩] false)))
                    (.region [⟨(some 48), .bin .add (.t 35) (.c (.d (.sc (.int .i64 1)))), none, 0, 0⟩,
                      ⟨(some 35), .mov (.t 48), none, 0, 0⟩] false)))))))
              (.region [⟨(some 49), .fieldAddr 2 (.t 1), none, 0, 0⟩,
                ⟨(some 50), .load 1 false (.t 49), none, 0, 0⟩,
                ⟨(some 51), .mov (.t 3), none, 0, 0⟩,
                ⟨(some 52), .mov (.t 4), none, 0, 0⟩,
                ⟨(some 53), .indexAddr 4 (.t 50) (.t 51), none, 0, 0⟩,
                ⟨(some 54), .fieldAddr 3 (.t 53), none, 0, 0⟩,
                ⟨none, .store 1 (.t 54) (.t 52), none, 0, 0⟩] false)))))
          (.region [⟨(some 55), .bin .add (.t 23) (.c (.d (.sc (.int .i64 1)))), none, 0, 0⟩,
            ⟨(some 23), .mov (.t 55), none, 0, 0⟩] false)))))))
    (.seq
     (.seq
      (.region [⟨(some 56), .fieldAddr 3 (.t 1), none, 0, 0⟩,
        ⟨(some 57), .load 1 false (.t 56), none, 0, 0⟩,
        ⟨(some 58), .len (.t 57), none, 0, 0⟩,
        ⟨(some 59), .mov (.c (.d (.sc (.int .i64 0)))), none, 0, 0⟩] false)
      (.block 4
       (.loop
        (.seq
         (.region [⟨(some 60), .bin .lss (.t 59) (.t 58), none, 0, 0⟩] false)
         (.seq
          (.cond (.t 60)
           .skip
           (.exit 4))
          (.seq
           (.block 5
            (.seq
             (.region [⟨(some 61), .mov (.t 59), none, 0, 0⟩,
               ⟨(some 6), .mov (.t 61), none, 0, 0⟩] false)
             (.region [⟨(some 62), .fieldAddr 3 (.t 1), none, 0, 0⟩,
               ⟨(some 63), .load 1 false (.t 62), none, 1, 0⟩,
               ⟨(some 64), .mov (.t 6), none, 0, 0⟩,
               ⟨(some 65), .fieldAddr 3 (.t 1), none, 0, 0⟩,
               ⟨(some 66), .load 1 false (.t 65), none, 8, 0⟩,
               ⟨(some 67), .mov (.t 6), none, 0, 0⟩,
               ⟨(some 68), .indexAddr 8 (.t 66) (.t 67), none, 56, 0⟩,
               ⟨(some 69), .fieldAddr 3 (.t 68), none, 120, 0⟩,
               ⟨(some 70), .load 5 true (.t 69), none, 248, 0⟩,
               ⟨(some 71), .call 68 [(.t 70)], none, 504, 0⟩,
               ⟨(some 72), .indexAddr 8 (.t 63) (.t 64), none, 1023, 0⟩,
               ⟨(some 73), .fieldAddr 3 (.t 72), none, 2047, 0⟩,
               ⟨none, .store 5 (.t 73) (.t 71), none, 4095, 0⟩] true)))
           (.region [⟨(some 74), .bin .add (.t 59) (.c (.d (.sc (.int .i64 1)))), none, 0, 0⟩,
             ⟨(some 59), .mov (.t 74), none, 0, 0⟩] false)))))))
     (.seq
      (.seq
       (.region [⟨(some 75), .fieldAddr 4 (.t 1), none, 0, 0⟩,
         ⟨(some 76), .load 1 false (.t 75), none, 0, 0⟩,
         ⟨(some 77), .len (.t 76), none, 0, 0⟩,
         ⟨(some 78), .mov (.c (.d (.sc (.int .i64 0)))), none, 0, 0⟩] false)
       (.block 6
        (.loop
         (.seq
          (.region [⟨(some 79), .bin .lss (.t 78) (.t 77), none, 0, 0⟩] false)
          (.seq
           (.cond (.t 79)
            .skip
            (.exit 6))
           (.seq
            (.block 7
             (.seq
              (.region [⟨(some 80), .mov (.t 78), none, 0, 0⟩,
                ⟨(some 7), .mov (.t 80), none, 0, 0⟩] false)
              (.region [⟨(some 81), .fieldAddr 4 (.t 1), none, 0, 0⟩,
                ⟨(some 82), .load 1 false (.t 81), none, 1, 0⟩,
                ⟨(some 83), .mov (.t 7), none, 0, 0⟩,
                ⟨(some 84), .fieldAddr 4 (.t 1), none, 0, 0⟩,
                ⟨(some 85), .load 1 false (.t 84), none, 8, 0⟩,
                ⟨(some 86), .mov (.t 7), none, 0, 0⟩,
                ⟨(some 87), .indexAddr 7 (.t 85) (.t 86), none, 56, 0⟩,
                ⟨(some 88), .fieldAddr 1 (.t 87), none, 120, 0⟩,
                ⟨(some 89), .load 5 true (.t 88), none, 248, 0⟩,
                ⟨(some 90), .call 68 [(.t 89)], none, 504, 0⟩,
                ⟨(some 91), .indexAddr 7 (.t 82) (.t 83), none, 1023, 0⟩,
                ⟨(some 92), .fieldAddr 1 (.t 91), none, 2047, 0⟩,
                ⟨none, .store 5 (.t 92) (.t 90), none, 4095, 0⟩] true)))
            (.region [⟨(some 93), .bin .add (.t 78) (.c (.d (.sc (.int .i64 1)))), none, 0, 0⟩,
              ⟨(some 78), .mov (.t 93), none, 0, 0⟩] false)))))))
      (.seq
       (.region [⟨(some 94), .load 5 true (.t 1), none, 0, 0⟩,
         ⟨none, .store 5 (.t 2) (.t 94), none, 0, 0⟩] false)
       .ret)))))), false⟩
/-- wreckage/differ.copyState -/
def t42 : AFn := ⟨1, 25, [.cell 2 4 true],
 (.seq
  (.region [⟨(some 1), .box (.t 0), none, 0, 0⟩,
    ⟨(some 2), .alloc [(.d (.sc (.int .u8 0))), (.d (.sc (.int .i64 0))), (.d (.sc (.int .i64 0))), (.own [] .full)], none, 0, 0⟩] false)
  (.seq
   (.region [⟨(some 5), .fieldAddr 3 (.t 1), none, 0, 0⟩,
     ⟨(some 6), .load 1 false (.t 5), none, 0, 0⟩,
     ⟨(some 7), .clone 5 88 (.t 6), none, 0, 1⟩,
     ⟨(some 8), .fieldAddr 3 (.t 1), none, 0, 0⟩,
     ⟨none, .store 1 (.t 8) (.t 7), none, 0, 0⟩] false)
   (.seq
    (.seq
     (.region [⟨(some 9), .fieldAddr 3 (.t 1), none, 0, 0⟩,
       ⟨(some 10), .load 1 false (.t 9), none, 0, 0⟩,
       ⟨(some 11), .len (.t 10), none, 0, 0⟩,
       ⟨(some 12), .mov (.c (.d (.sc (.int .i64 0)))), none, 0, 0⟩] false)
     (.block 0
      (.loop
       (.seq
        (.region [⟨(some 13), .bin .lss (.t 12) (.t 11), none, 0, 0⟩] false)
        (.seq
         (.cond (.t 13)
          .skip
          (.exit 0))
         (.seq
          (.block 1
           (.seq
            (.region [⟨(some 14), .mov (.t 12), none, 0, 0⟩,
              ⟨(some 15), .indexAddr 5 (.t 10) (.t 12), none, 0, 0⟩,
              ⟨(some 16), .load 5 true (.t 15), none, 0, 0⟩,
              ⟨(some 4), .alloc [(.d (.sc (.int .u8 0))), (.d (.sc (.int .i64 0))), (.own [] .full), (.own [] .full), (.own [] .full)], none, 0, 0⟩,
              ⟨(some 3), .mov (.t 14), none, 0, 0⟩,
              ⟨none, .store 5 (.t 4) (.t 16), none, 0, 0⟩] false)
            (.region [⟨(some 17), .fieldAddr 3 (.t 1), none, 0, 0⟩,
              ⟨(some 18), .load 1 false (.t 17), none, 1, 0⟩,
              ⟨(some 19), .mov (.t 3), none, 0, 0⟩,
              ⟨(some 20), .load 5 true (.t 4), none, 0, 0⟩,
              ⟨(some 21), .call 33 [(.t 20)], none, 8, 0⟩,
              ⟨(some 22), .indexAddr 5 (.t 18) (.t 19), none, 31, 0⟩,
              ⟨none, .store 5 (.t 22) (.t 21), none, 63, 0⟩] true)))
          (.region [⟨(some 23), .bin .add (.t 12) (.c (.d (.sc (.int .i64 1)))), none, 0, 0⟩,
            ⟨(some 12), .mov (.t 23), none, 0, 0⟩] false)))))))
    (.seq
     (.region [⟨(some 24), .load 4 true (.t 1), none, 0, 0⟩,
       ⟨none, .store 4 (.t 2) (.t 24), none, 0, 0⟩] false)
     .ret)))), false⟩
/-- slices.Grow[[]wreckage/api.FrameState,wreckage/api.FrameState] -/
def t86 : AFn := ⟨2, 27, [.t 4],
 (.seq
  (.region [⟨(some 4), .mov (.c (.own [] .full)), none, 0, 262148⟩] false)
  (.seq
   (.seq
    (.region [⟨(some 5), .mov (.t 1), none, 0, 0⟩,
      ⟨(some 6), .bin .lss (.t 5) (.c (.d (.sc (.int .i64 0)))), none, 0, 0⟩] false)
    (.cond (.t 6)
     (.region [⟨(some 7), .bad, none, 0, 0⟩,
       ⟨none, .bad, none, 0, 0⟩] false)
     .skip))
   (.seq
    (.seq
     (.region [⟨(some 8), .mov (.t 1), none, 0, 0⟩,
       ⟨(some 9), .mov (.t 0), none, 0, 0⟩,
       ⟨(some 10), .capF (.t 9), none, 0, 0⟩,
       ⟨(some 11), .mov (.t 0), none, 0, 0⟩,
       ⟨(some 12), .len (.t 11), none, 0, 0⟩,
       ⟨(some 13), .bin .sub (.t 10) (.t 12), none, 0, 0⟩,
       ⟨(some 14), .bin .sub (.t 8) (.t 13), none, 0, 0⟩,
       ⟨(some 1), .mov (.t 14), none, 0, 0⟩] false)
     (.seq
      (.region [⟨(some 15), .mov (.t 1), none, 0, 0⟩,
        ⟨(some 16), .bin .gtr (.t 15) (.c (.d (.sc (.int .i64 0)))), none, 0, 0⟩] false)
      (.cond (.t 16)
       (.region [⟨(some 17), .mov (.t 0), none, 0, 0⟩,
         ⟨(some 18), .mov (.t 0), none, 0, 0⟩,
         ⟨(some 19), .capF (.t 18), none, 0, 0⟩,
         ⟨(some 20), .slice 4 (.t 17) none (some (.t 19)) none, none, 0, 0⟩,
         ⟨(some 21), .mov (.t 1), none, 0, 0⟩,
         ⟨(some 22), .appendZ 4 48 [(.sc (.int .i64 0)), (.sc (.int .i64 0)), (.sc (.int .u64 0)), (.sl [])] (.t 20) (.t 21), none, 0, 1⟩,
         ⟨(some 23), .mov (.t 0), none, 0, 0⟩,
         ⟨(some 24), .len (.t 23), none, 0, 0⟩,
         ⟨(some 25), .slice 4 (.t 22) none (some (.t 24)) none, none, 0, 0⟩,
         ⟨(some 0), .mov (.t 25), none, 0, 0⟩] false)
       .skip)))
    (.seq
     (.region [⟨(some 26), .mov (.t 0), none, 0, 0⟩,
       ⟨(some 4), .mov (.t 26), none, 0, 262148⟩] false)
     .ret)))), true⟩
/-- slices.Concat[[]wreckage/api.FrameState,wreckage/api.FrameState] -/
def t74 : AFn := ⟨1, 36, [.t 2],
 (.seq
  (.region [⟨(some 2), .mov (.c (.own [] .full)), none, 0, 0⟩] false)
  (.seq
   (.region [⟨(some 3), .mov (.c (.d (.sc (.int .i64 0)))), none, 0, 0⟩] false)
   (.seq
    (.seq
     (.region [⟨(some 9), .mov (.t 0), none, 0, 0⟩,
       ⟨(some 10), .len (.t 9), none, 0, 0⟩,
       ⟨(some 11), .mov (.c (.d (.sc (.int .i64 0)))), none, 0, 0⟩] false)
     (.block 0
      (.loop
       (.seq
        (.region [⟨(some 12), .bin .lss (.t 11) (.t 10), none, 0, 0⟩] false)
        (.seq
         (.cond (.t 12)
          .skip
          (.exit 0))
         (.seq
          (.block 1
           (.seq
            (.region [⟨(some 13), .indexAddr 1 (.t 9) (.t 11), none, 0, 0⟩,
              ⟨(some 14), .load 1 false (.t 13), none, 0, 0⟩,
              ⟨(some 5), .mov (.t 14), none, 0, 0⟩] false)
            (.seq
             (.region [⟨(some 15), .mov (.t 3), none, 0, 0⟩,
               ⟨(some 16), .mov (.t 5), none, 0, 0⟩,
               ⟨(some 17), .len (.t 16), none, 0, 0⟩,
               ⟨(some 18), .bin .add (.t 15) (.t 17), none, 0, 0⟩,
               ⟨(some 3), .mov (.t 18), none, 0, 0⟩] false)
             (.seq
              (.region [⟨(some 19), .mov (.t 3), none, 0, 0⟩,
                ⟨(some 20), .bin .lss (.t 19) (.c (.d (.sc (.int .i64 0)))), none, 0, 0⟩] false)
              (.cond (.t 20)
               (.region [⟨(some 21), .bad, none, 0, 0⟩,
                 ⟨none, .bad, none, 0, 0⟩] false)
               .skip)))))
          (.region [⟨(some 22), .bin .add (.t 11) (.c (.d (.sc (.int .i64 1)))), none, 0, 0⟩,
            ⟨(some 11), .mov (.t 22), none, 0, 0⟩] false)))))))
    (.seq
     (.region [⟨(some 23), .mov (.t 3), none, 0, 0⟩,
       ⟨(some 24), .call 86 [(.c (.own [] .full)), (.t 23)], none, 0, 262145⟩,
       ⟨(some 6), .mov (.t 24), none, 0, 0⟩] false)
     (.seq
      (.seq
       (.region [⟨(some 25), .mov (.t 0), none, 0, 0⟩,
         ⟨(some 26), .len (.t 25), none, 0, 0⟩,
         ⟨(some 27), .mov (.c (.d (.sc (.int .i64 0)))), none, 0, 0⟩] false)
       (.block 2
        (.loop
         (.seq
          (.region [⟨(some 28), .bin .lss (.t 27) (.t 26), none, 0, 0⟩] false)
          (.seq
           (.cond (.t 28)
            .skip
            (.exit 2))
           (.seq
            (.block 3
             (.seq
              (.region [⟨(some 29), .indexAddr 1 (.t 25) (.t 27), none, 0, 0⟩,
                ⟨(some 30), .load 1 false (.t 29), none, 0, 0⟩,
                ⟨(some 8), .mov (.t 30), none, 0, 0⟩] false)
              (.region [⟨(some 31), .mov (.t 6), none, 0, 0⟩,
                ⟨(some 32), .mov (.t 8), none, 0, 0⟩,
                ⟨(some 33), .append 4 48 (.t 31) (.t 32), none, 0, 0⟩,
                ⟨(some 6), .mov (.t 33), none, 0, 0⟩] false)))
            (.region [⟨(some 34), .bin .add (.t 27) (.c (.d (.sc (.int .i64 1)))), none, 0, 0⟩,
              ⟨(some 27), .mov (.t 34), none, 0, 0⟩] false)))))))
      (.seq
       (.region [⟨(some 35), .mov (.t 6), none, 0, 0⟩,
         ⟨(some 2), .mov (.t 35), none, 0, 0⟩] false)
       .ret)))))), false⟩
/-- wreckage/differ.apply -/
def t43 : AFn := ⟨2, 132, [.t 4],
 (.seq
  (.region [⟨(some 3), .box (.t 1), none, 0, 0⟩,
    ⟨(some 4), .mov (.c (.d (.sc (.bool false)))), none, 0, 0⟩] false)
  (.seq
   (.region [⟨(some 8), .fieldAddr 6 (.t 3), none, 0, 0⟩,
     ⟨(some 9), .load 5 true (.t 8), none, 0, 0⟩,
     ⟨(some 10), .call 33 [(.t 9)], none, 0, 0⟩,
     ⟨(some 5), .alloc [(.d (.sc (.int .u8 0))), (.d (.sc (.int .i64 0))), (.own [] .full), (.own [] .full), (.own [] .full)], none, 0, 0⟩,
     ⟨none, .store 5 (.t 5) (.t 10), none, 0, 0⟩] false)
   (.seq
    (.seq
     (.region [⟨(some 11), .fieldAddr 0 (.t 3), none, 0, 0⟩,
       ⟨(some 12), .load 1 false (.t 11), none, 0, 0⟩] false)
     (.block 0
      (.seq
       (.region [⟨(some 14), .bin .eql (.t 12) (.c (.d (.sc (.int .u8 1)))), none, 0, 0⟩,
         ⟨(some 13), .mov (.t 14), none, 0, 0⟩] false)
       (.cond (.t 13)
        (.seq
         (.region [⟨(some 15), .mov (.t 0), none, 0, 0⟩,
           ⟨(some 16), .mov (.t 0), none, 0, 0⟩,
           ⟨(some 17), .mov (.t 0), none, 0, 0⟩,
           ⟨(some 18), .fieldAddr 3 (.t 3), none, 0, 0⟩,
           ⟨(some 19), .load 1 false (.t 18), none, 8, 0⟩,
           ⟨(some 20), .fieldAddr 4 (.t 3), none, 0, 0⟩,
           ⟨(some 21), .load 1 false (.t 20), none, 32, 0⟩,
           ⟨(some 22), .fieldAddr 5 (.t 3), none, 0, 0⟩,
           ⟨(some 23), .load 1 false (.t 22), none, 128, 0⟩,
           ⟨(some 24), .nilCheck (.t 15), none, 25, 0⟩,
           ⟨(some 25), .fieldAddr 0 (.t 24), none, 537, 0⟩,
           ⟨none, .store 1 (.t 25) (.t 19), none, 1561, 0⟩,
           ⟨(some 26), .nilCheck (.t 16), none, 3707, 0⟩,
           ⟨(some 27), .fieldAddr 1 (.t 26), none, 7803, 0⟩,
           ⟨none, .store 1 (.t 27) (.t 21), none, 15995, 0⟩,
           ⟨(some 28), .nilCheck (.t 17), none, 32767, 0⟩,
           ⟨(some 29), .fieldAddr 2 (.t 28), none, 65535, 0⟩,
           ⟨none, .store 1 (.t 29) (.t 23), none, 131071, 0⟩] true)
         (.seq
          (.region [⟨(some 4), .mov (.c (.d (.sc (.bool true)))), none, 0, 0⟩] false)
          .ret))
        (.seq
         (.region [⟨(some 31), .bin .eql (.t 12) (.c (.d (.sc (.int .u8 7)))), none, 0, 0⟩,
           ⟨(some 30), .mov (.t 31), none, 0, 0⟩] false)
         (.cond (.t 30)
          (.seq
           (.region [⟨(some 32), .mov (.t 0), none, 0, 0⟩,
             ⟨(some 33), .mov (.t 0), none, 0, 0⟩,
             ⟨(some 34), .nilCheck (.t 33), none, 2, 0⟩,
             ⟨(some 35), .fieldAddr 3 (.t 34), none, 6, 0⟩,
             ⟨(some 36), .load 1 false (.t 35), none, 14, 0⟩,
             ⟨(some 37), .load 5 true (.t 5), none, 0, 0⟩,
             ⟨(some 38), .buildSlice 5 1 [(.sc (.int .u8 0)), (.sc (.int .i64 0)), (.sl []), (.sl []), (.sl [])] [(0, (.t 37))], none, 32, 0⟩,
             ⟨(some 39), .append 5 88 (.t 36) (.t 38), none, 126, 1⟩,
             ⟨(some 40), .nilCheck (.t 32), none, 255, 0⟩,
             ⟨(some 41), .fieldAddr 3 (.t 40), none, 511, 0⟩,
             ⟨none, .store 1 (.t 41) (.t 39), none, 1023, 0⟩] true)
           (.seq
            (.region [⟨(some 42), .mov (.t 0), none, 0, 0⟩,
              ⟨(some 43), .nilCheck (.t 42), none, 0, 0⟩,
              ⟨(some 44), .load 4 true (.t 43), none, 0, 0⟩,
              ⟨(some 45), .buildSlice 4 1 [(.sc (.int .u8 0)), (.sc (.int .i64 0)), (.sc (.int .i64 0)), (.sl [])] [(0, (.t 44))], none, 0, 2⟩,
              ⟨(some 46), .callF 31 [(.t 45)], none, 0, 0⟩,
              ⟨(some 4), .mov (.t 46), none, 0, 0⟩] false)
            .ret))
          .skip))))))
    (.seq
     (.seq
      (.region [⟨(some 47), .fieldAddr 1 (.t 3), none, 0, 0⟩,
        ⟨(some 48), .load 1 false (.t 47), none, 1, 0⟩,
        ⟨(some 49), .mov (.t 0), none, 0, 0⟩,
        ⟨(some 50), .nilCheck (.t 49), none, 4, 0⟩,
        ⟨(some 51), .fieldAddr 3 (.t 50), none, 12, 0⟩,
        ⟨(some 52), .load 1 false (.t 51), none, 28, 0⟩,
        ⟨(some 53), .len (.t 52), none, 60, 0⟩,
        ⟨(some 54), .bin .geq (.t 48) (.t 53), none, 127, 0⟩] true)
      (.cond (.t 54)
       (.seq
        (.region [⟨(some 4), .mov (.c (.d (.sc (.bool false)))), none, 0, 0⟩] false)
        .ret)
       .skip))
     (.seq
      (.region [⟨(some 55), .mov (.t 0), none, 0, 0⟩,
        ⟨(some 56), .nilCheck (.t 55), none, 1, 0⟩,
        ⟨(some 57), .fieldAddr 3 (.t 56), none, 3, 0⟩,
        ⟨(some 58), .load 1 false (.t 57), none, 7, 0⟩,
        ⟨(some 59), .fieldAddr 1 (.t 3), none, 0, 0⟩,
        ⟨(some 60), .load 1 false (.t 59), none, 16, 0⟩,
        ⟨(some 61), .indexAddr 5 (.t 58) (.t 60), none, 63, 0⟩,
        ⟨(some 6), .mov (.t 61), none, 127, 0⟩] true)
      (.seq
       (.seq
        (.region [⟨(some 62), .fieldAddr 0 (.t 3), none, 0, 0⟩,
          ⟨(some 63), .load 1 false (.t 62), none, 0, 0⟩] false)
        (.block 1
         (.seq
          (.region [⟨(some 65), .bin .eql (.t 63) (.c (.d (.sc (.int .u8 2)))), none, 0, 0⟩,
            ⟨(some 64), .mov (.t 65), none, 0, 0⟩] false)
          (.cond (.t 64)
           (.region [⟨(some 66), .mov (.t 6), none, 0, 0⟩,
             ⟨(some 67), .mov (.t 6), none, 0, 0⟩,
             ⟨(some 68), .fieldAddr 0 (.t 5), none, 0, 0⟩,
             ⟨(some 69), .load 1 false (.t 68), none, 4, 0⟩,
             ⟨(some 70), .fieldAddr 1 (.t 5), none, 0, 0⟩,
             ⟨(some 71), .load 1 false (.t 70), none, 16, 0⟩,
             ⟨(some 72), .nilCheck (.t 66), none, 13, 0⟩,
             ⟨(some 73), .fieldAddr 0 (.t 72), none, 77, 0⟩,
             ⟨none, .store 1 (.t 73) (.t 69), none, 205, 0⟩,
             ⟨(some 74), .nilCheck (.t 67), none, 511, 0⟩,
             ⟨(some 75), .fieldAddr 1 (.t 74), none, 1023, 0⟩,
             ⟨none, .store 1 (.t 75) (.t 71), none, 2047, 0⟩] true)
           (.seq
            (.region [⟨(some 77), .bin .eql (.t 63) (.c (.d (.sc (.int .u8 3)))), none, 0, 0⟩,
              ⟨(some 76), .mov (.t 77), none, 0, 0⟩] false)
            (.cond (.t 76)
             (.seq
              (.region [⟨(some 78), .mov (.t 6), none, 0, 0⟩,
                ⟨(some 79), .nilCheck (.t 78), none, 1, 0⟩,
                ⟨(some 80), .fieldAddr 2 (.t 79), none, 3, 0⟩,
                ⟨(some 81), .load 1 false (.t 80), none, 7, 0⟩,
                ⟨(some 82), .len (.t 81), none, 15, 0⟩,
                ⟨(some 83), .fieldAddr 2 (.t 3), none, 0, 0⟩,
                ⟨(some 84), .load 1 false (.t 83), none, 32, 0⟩,
                ⟨(some 85), .bin .sub (.t 82) (.t 84), none, 127, 0⟩,
                ⟨(some 7), .mov (.t 85), none, 255, 0⟩] true)
              (.seq
               (.seq
                (.region [⟨(some 86), .mov (.t 7), none, 0, 0⟩,
                  ⟨(some 87), .bin .lss (.t 86) (.c (.d (.sc (.int .i64 0)))), none, 0, 0⟩] false)
                (.cond (.t 87)
                 (.seq
                  (.region [⟨(some 4), .mov (.c (.d (.sc (.bool false)))), none, 0, 0⟩] false)
                  .ret)
                 .skip))
               (.region [⟨(some 88), .mov (.t 6), none, 0, 0⟩,
                 ⟨(some 89), .fieldAddr 2 (.t 5), none, 0, 0⟩,
                 ⟨(some 90), .load 1 false (.t 89), none, 2, 0⟩,
                 ⟨(some 91), .mov (.t 6), none, 0, 0⟩,
                 ⟨(some 92), .nilCheck (.t 91), none, 8, 0⟩,
                 ⟨(some 93), .fieldAddr 2 (.t 92), none, 24, 0⟩,
                 ⟨(some 94), .load 1 false (.t 93), none, 56, 0⟩,
                 ⟨(some 95), .mov (.t 7), none, 0, 0⟩,
                 ⟨(some 96), .slice 4 (.t 94) (some (.t 95)) none none, none, 248, 0⟩,
                 ⟨(some 97), .buildSlice 1 2 [(.sl [])] [(0, (.t 90)), (1, (.t 96))], none, 510, 0⟩,
                 ⟨(some 98), .call 74 [(.t 97)], none, 1022, 0⟩,
                 ⟨(some 99), .nilCheck (.t 88), none, 2047, 0⟩,
                 ⟨(some 100), .fieldAddr 2 (.t 99), none, 4095, 0⟩,
                 ⟨none, .store 1 (.t 100) (.t 98), none, 8191, 0⟩] true)))
             (.seq
              (.region [⟨(some 102), .bin .eql (.t 63) (.c (.d (.sc (.int .u8 4)))), none, 0, 0⟩,
                ⟨(some 101), .mov (.t 102), none, 0, 0⟩] false)
              (.cond (.t 101)
               (.region [⟨(some 103), .mov (.t 6), none, 0, 0⟩,
                 ⟨(some 104), .fieldAddr 3 (.t 5), none, 0, 0⟩,
                 ⟨(some 105), .load 1 false (.t 104), none, 0, 0⟩,
                 ⟨(some 106), .nilCheck (.t 103), none, 0, 0⟩,
                 ⟨(some 107), .fieldAddr 3 (.t 106), none, 0, 0⟩,
                 ⟨none, .store 1 (.t 107) (.t 105), none, 0, 0⟩] false)
               (.seq
                (.region [⟨(some 109), .bin .eql (.t 63) (.c (.d (.sc (.int .u8 5)))), none, 0, 0⟩,
                  ⟨(some 108), .mov (.t 109), none, 0, 0⟩] false)
                (.cond (.t 108)
                 (.region [⟨(some 110), .mov (.t 6), none, 0, 0⟩,
                   ⟨(some 111), .fieldAddr 4 (.t 5), none, 0, 0⟩,
                   ⟨(some 112), .load 1 false (.t 111), none, 0, 0⟩,
                   ⟨(some 113), .nilCheck (.t 110), none, 0, 0⟩,
                   ⟨(some 114), .fieldAddr 4 (.t 113), none, 0, 0⟩,
                   ⟨none, .store 1 (.t 114) (.t 112), none, 0, 0⟩] false)
                 (.seq
                  (.region [⟨(some 116), .bin .eql (.t 63) (.c (.d (.sc (.int .u8 6)))), none, 0, 0⟩,
                    ⟨(some 115), .mov (.t 116), none, 0, 0⟩] false)
                  (.cond (.t 115)
                   (.region [⟨(some 117), .mov (.t 0), none, 0, 0⟩,
                     ⟨(some 118), .mov (.t 0), none, 0, 0⟩,
                     ⟨(some 119), .nilCheck (.t 118), none, 2, 0⟩,
                     ⟨(some 120), .fieldAddr 3 (.t 119), none, 6, 0⟩,
                     ⟨(some 121), .load 1 false (.t 120), none, 14, 0⟩,
                     ⟨(some 122), .fieldAddr 1 (.t 3), none, 0, 0⟩,
                     ⟨(some 123), .load 1 false (.t 122), none, 32, 0⟩,
                     ⟨(some 124), .slice 5 (.t 121) none (some (.t 123)) none, none, 126, 3⟩,
                     ⟨(some 125), .nilCheck (.t 117), none, 255, 0⟩,
                     ⟨(some 126), .fieldAddr 3 (.t 125), none, 511, 0⟩,
                     ⟨none, .store 1 (.t 126) (.t 124), none, 1023, 0⟩] true)
                   .skip))))))))))))
       (.seq
        (.region [⟨(some 127), .mov (.t 0), none, 0, 0⟩,
          ⟨(some 128), .nilCheck (.t 127), none, 0, 0⟩,
          ⟨(some 129), .load 4 true (.t 128), none, 0, 0⟩,
          ⟨(some 130), .buildSlice 4 1 [(.sc (.int .u8 0)), (.sc (.int .i64 0)), (.sc (.int .i64 0)), (.sl [])] [(0, (.t 129))], none, 0, 2⟩,
          ⟨(some 131), .callF 31 [(.t 130)], none, 0, 0⟩,
          ⟨(some 4), .mov (.t 131), none, 0, 0⟩] false)
        .ret))))))), true⟩
/-- wreckage/differ.Apply -/
def t18 : AFn := ⟨2, 35, [.cell 4 4 true, .t 5],
 (.seq
  (.region [⟨(some 2), .box (.t 0), none, 0, 0⟩,
    ⟨(some 4), .alloc [(.d (.sc (.int .u8 0))), (.d (.sc (.int .i64 0))), (.d (.sc (.int .i64 0))), (.own [] .full)], none, 0, 0⟩,
    ⟨(some 5), .mov (.c (.d (.sc (.int .i64 0)))), none, 0, 0⟩] false)
  (.seq
   (.seq
    (.region [⟨(some 10), .load 4 true (.t 2), none, 0, 0⟩,
      ⟨(some 11), .buildSlice 4 1 [(.sc (.int .u8 0)), (.sc (.int .i64 0)), (.sc (.int .i64 0)), (.sl [])] [(0, (.t 10))], none, 0, 2⟩,
      ⟨(some 12), .callF 31 [(.t 11)], none, 0, 0⟩,
      ⟨(some 13), .un .not (.t 12), none, 0, 0⟩] false)
    (.cond (.t 13)
     (.seq
      (.region [⟨(some 14), .build [(.d (.sc (.int .u8 0))), (.d (.sc (.int .i64 0))), (.d (.sc (.int .i64 0))), (.own [] .full)] [], none, 0, 0⟩,
        ⟨none, .store 4 (.t 4) (.t 14), none, 0, 0⟩,
        ⟨(some 5), .mov (.c (.d (.sc (.int .i64 4)))), none, 0, 0⟩] false)
      .ret)
     .skip))
   (.seq
    (.seq
     (.region [⟨(some 15), .mov (.t 1), none, 0, 0⟩,
       ⟨(some 16), .callF 41 [(.t 15)], none, 0, 0⟩,
       ⟨(some 6), .mov (.t 16), none, 0, 0⟩] false)
     (.seq
      (.region [⟨(some 17), .mov (.t 6), none, 0, 0⟩,
        ⟨(some 18), .bin .neq (.t 17) (.c (.d (.sc (.int .i64 0)))), none, 0, 0⟩] false)
      (.cond (.t 18)
       (.seq
        (.region [⟨(some 19), .build [(.d (.sc (.int .u8 0))), (.d (.sc (.int .i64 0))), (.d (.sc (.int .i64 0))), (.own [] .full)] [], none, 0, 0⟩,
          ⟨(some 20), .mov (.t 6), none, 0, 0⟩,
          ⟨none, .store 4 (.t 4) (.t 19), none, 0, 0⟩,
          ⟨(some 5), .mov (.t 20), none, 0, 0⟩] false)
        .ret)
       .skip)))
    (.seq
     (.region [⟨(some 21), .load 4 true (.t 2), none, 0, 0⟩,
       ⟨(some 22), .call 42 [(.t 21)], none, 0, 327684⟩,
       ⟨(some 7), .alloc [(.d (.sc (.int .u8 0))), (.d (.sc (.int .i64 0))), (.d (.sc (.int .i64 0))), (.own [] .full)], none, 0, 0⟩,
       ⟨none, .store 4 (.t 7) (.t 22), none, 0, 0⟩] false)
     (.seq
      (.seq
       (.region [⟨(some 23), .mov (.t 1), none, 0, 0⟩,
         ⟨(some 24), .len (.t 23), none, 0, 0⟩,
         ⟨(some 25), .mov (.c (.d (.sc (.int .i64 0)))), none, 0, 0⟩] false)
       (.block 0
        (.loop
         (.seq
          (.region [⟨(some 26), .bin .lss (.t 25) (.t 24), none, 0, 0⟩] false)
          (.seq
           (.cond (.t 26)
            .skip
            (.exit 0))
           (.seq
            (.block 1
             (.seq
              (.region [⟨(some 27), .indexAddr 11 (.t 23) (.t 25), none, 0, 0⟩,
                ⟨(some 28), .load 11 true (.t 27), none, 0, 0⟩,
                ⟨(some 9), .alloc [(.d (.sc (.int .u8 0))), (.d (.sc (.int .i64 0))), (.d (.sc (.int .i64 0))), (.d (.sc (.int .u8 0))), (.d (.sc (.int .i64 0))), (.d (.sc (.int .i64 0))), (.d (.sc (.int .u8 0))), (.d (.sc (.int .i64 0))), (.own [] .full), (.own [] .full), (.own [] .full)], none, 0, 0⟩,
                ⟨none, .store 11 (.t 9) (.t 28), none, 0, 0⟩] false)
              (.seq
               (.region [⟨(some 29), .load 11 true (.t 9), none, 0, 0⟩,
                 ⟨(some 30), .callF 43 [(.t 7), (.t 29)], none, 0, 0⟩,
                 ⟨(some 31), .un .not (.t 30), none, 0, 0⟩] false)
               (.cond (.t 31)
                (.seq
                 (.region [⟨(some 32), .build [(.d (.sc (.int .u8 0))), (.d (.sc (.int .i64 0))), (.d (.sc (.int .i64 0))), (.own [] .full)] [], none, 0, 0⟩,
                   ⟨none, .store 4 (.t 4) (.t 32), none, 0, 0⟩,
                   ⟨(some 5), .mov (.c (.d (.sc (.int .i64 2)))), none, 0, 0⟩] false)
                 .ret)
                .skip))))
            (.region [⟨(some 33), .bin .add (.t 25) (.c (.d (.sc (.int .i64 1)))), none, 0, 0⟩,
              ⟨(some 25), .mov (.t 33), none, 0, 0⟩] false)))))))
      (.seq
       (.region [⟨(some 34), .load 4 true (.t 7), none, 0, 0⟩,
         ⟨none, .store 4 (.t 4) (.t 34), none, 0, 0⟩,
         ⟨(some 5), .mov (.c (.d (.sc (.int .i64 0)))), none, 0, 0⟩] false)
       .ret)))))), false⟩
/-- wreckage/wreckageref43.fair -/
def t55 : AFn := ⟨1, 19, [.t 2],
 (.seq
  (.region [⟨(some 1), .box (.t 0), none, 0, 0⟩,
    ⟨(some 2), .mov (.c (.d (.sc (.bool false)))), none, 0, 0⟩] false)
  (.seq
   (.region [⟨(some 3), .fieldAddr 2 (.t 1), none, 0, 0⟩,
     ⟨(some 4), .load 1 false (.t 3), none, 0, 0⟩,
     ⟨(some 5), .len (.t 4), none, 0, 0⟩,
     ⟨(some 6), .bin .leq (.t 5) (.c (.d (.sc (.int .i64 170)))), none, 0, 0⟩,
     ⟨(some 7), .mov (.t 6), none, 0, 0⟩,
     ⟨(some 8), .fieldAddr 3 (.t 1), (some (7, true)), 0, 0⟩,
     ⟨(some 9), .load 1 false (.t 8), (some (7, true)), 0, 0⟩,
     ⟨(some 10), .len (.t 9), (some (7, true)), 0, 0⟩,
     ⟨(some 11), .bin .leq (.t 10) (.c (.d (.sc (.int .i64 410)))), (some (7, true)), 0, 0⟩,
     ⟨(some 12), .pick (.t 7) (.t 11) (.c (.d (.sc (.bool false)))), none, 0, 0⟩,
     ⟨(some 13), .mov (.t 12), none, 0, 0⟩,
     ⟨(some 14), .fieldAddr 4 (.t 1), (some (13, true)), 0, 0⟩,
     ⟨(some 15), .load 1 false (.t 14), (some (13, true)), 0, 0⟩,
     ⟨(some 16), .len (.t 15), (some (13, true)), 0, 0⟩,
     ⟨(some 17), .bin .leq (.t 16) (.c (.d (.sc (.int .i64 410)))), (some (13, true)), 0, 0⟩,
     ⟨(some 18), .pick (.t 13) (.t 17) (.c (.d (.sc (.bool false)))), none, 0, 0⟩,
     ⟨(some 2), .mov (.t 18), none, 0, 0⟩] false)
   .ret)), false⟩
/-- wreckage/wreckageref43.Fair -/
def t34 : AFn := ⟨1, 22, [.t 2],
 (.seq
  (.region [⟨(some 1), .box (.t 0), none, 0, 0⟩,
    ⟨(some 2), .mov (.c (.d (.sc (.bool false)))), none, 0, 0⟩] false)
  (.seq
   (.seq
    (.region [⟨(some 3), .mov (.c (.d (.sc (.int .i64 0)))), none, 0, 0⟩] false)
    (.block 0
     (.loop
      (.seq
       (.seq
        (.region [⟨(some 4), .mov (.t 3), none, 0, 0⟩,
          ⟨(some 5), .fieldAddr 3 (.t 1), none, 0, 0⟩,
          ⟨(some 6), .load 1 false (.t 5), none, 0, 0⟩,
          ⟨(some 7), .len (.t 6), none, 0, 0⟩,
          ⟨(some 8), .bin .lss (.t 4) (.t 7), none, 0, 0⟩] false)
        (.cond (.t 8)
         .skip
         (.exit 0)))
       (.seq
        (.block 1
         (.seq
          (.region [⟨(some 11), .fieldAddr 3 (.t 1), none, 0, 0⟩,
            ⟨(some 12), .load 1 false (.t 11), none, 0, 0⟩,
            ⟨(some 13), .mov (.t 3), none, 0, 0⟩,
            ⟨(some 14), .indexAddr 5 (.t 12) (.t 13), none, 0, 0⟩,
            ⟨(some 15), .load 5 true (.t 14), none, 0, 0⟩,
            ⟨(some 16), .callF 55 [(.t 15)], none, 0, 0⟩,
            ⟨(some 17), .un .not (.t 16), none, 0, 0⟩] false)
          (.cond (.t 17)
           (.seq
            (.region [⟨(some 2), .mov (.c (.d (.sc (.bool false)))), none, 0, 0⟩] false)
            .ret)
           .skip)))
        (.region [⟨(some 9), .mov (.t 3), none, 0, 0⟩,
          ⟨(some 10), .bin .add (.t 9) (.c (.d (.sc (.int .i64 1)))), none, 0, 0⟩,
          ⟨(some 3), .mov (.t 10), none, 0, 0⟩] false))))))
   (.seq
    (.region [⟨(some 18), .fieldAddr 3 (.t 1), none, 0, 0⟩,
      ⟨(some 19), .load 1 false (.t 18), none, 0, 0⟩,
      ⟨(some 20), .len (.t 19), none, 0, 0⟩,
      ⟨(some 21), .bin .leq (.t 20) (.c (.d (.sc (.int .i64 16)))), none, 0, 0⟩,
      ⟨(some 2), .mov (.t 21), none, 0, 0⟩] false)
    .ret))), false⟩
/-- wreckage/wreckageref38.Same -/
def t49 : AFn := ⟨2, 60, [.t 4],
 (.seq
  (.region [⟨(some 2), .box (.t 0), none, 0, 0⟩,
    ⟨(some 3), .box (.t 1), none, 0, 0⟩,
    ⟨(some 4), .mov (.c (.d (.sc (.bool false)))), none, 0, 0⟩] false)
  (.seq
   (.seq
    (.region [⟨(some 6), .fieldAddr 0 (.t 2), none, 0, 0⟩,
      ⟨(some 7), .load 1 false (.t 6), none, 0, 0⟩,
      ⟨(some 8), .fieldAddr 0 (.t 3), none, 0, 0⟩,
      ⟨(some 9), .load 1 false (.t 8), none, 0, 0⟩,
      ⟨(some 10), .bin .neq (.t 7) (.t 9), none, 0, 0⟩,
      ⟨(some 11), .mov (.t 10), none, 0, 0⟩,
      ⟨(some 12), .fieldAddr 1 (.t 2), (some (11, false)), 0, 0⟩,
      ⟨(some 13), .load 1 false (.t 12), (some (11, false)), 0, 0⟩,
      ⟨(some 14), .fieldAddr 1 (.t 3), (some (11, false)), 0, 0⟩,
      ⟨(some 15), .load 1 false (.t 14), (some (11, false)), 0, 0⟩,
      ⟨(some 16), .bin .neq (.t 13) (.t 15), (some (11, false)), 0, 0⟩,
      ⟨(some 17), .pick (.t 11) (.c (.d (.sc (.bool true)))) (.t 16), none, 0, 0⟩,
      ⟨(some 18), .mov (.t 17), none, 0, 0⟩,
      ⟨(some 19), .fieldAddr 2 (.t 2), (some (18, false)), 0, 0⟩,
      ⟨(some 20), .load 1 false (.t 19), (some (18, false)), 0, 0⟩,
      ⟨(some 21), .fieldAddr 2 (.t 3), (some (18, false)), 0, 0⟩,
      ⟨(some 22), .load 1 false (.t 21), (some (18, false)), 0, 0⟩,
      ⟨(some 23), .bin .neq (.t 20) (.t 22), (some (18, false)), 0, 0⟩,
      ⟨(some 24), .pick (.t 18) (.c (.d (.sc (.bool true)))) (.t 23), none, 0, 0⟩,
      ⟨(some 25), .mov (.t 24), none, 0, 0⟩,
      ⟨(some 26), .fieldAddr 4 (.t 2), (some (25, false)), 0, 0⟩,
      ⟨(some 27), .load 1 false (.t 26), (some (25, false)), 0, 0⟩,
      ⟨(some 28), .fieldAddr 4 (.t 3), (some (25, false)), 0, 0⟩,
      ⟨(some 29), .load 1 false (.t 28), (some (25, false)), 0, 0⟩,
      ⟨(some 30), .eqb true (.t 27) (.t 29), (some (25, false)), 0, 0⟩,
      ⟨(some 31), .pick (.t 25) (.c (.d (.sc (.bool true)))) (.t 30), none, 0, 0⟩,
      ⟨(some 32), .mov (.t 31), none, 0, 0⟩,
      ⟨(some 33), .fieldAddr 3 (.t 2), (some (32, false)), 0, 0⟩,
      ⟨(some 34), .load 1 false (.t 33), (some (32, false)), 0, 0⟩,
      ⟨(some 35), .len (.t 34), (some (32, false)), 0, 0⟩,
      ⟨(some 36), .fieldAddr 3 (.t 3), (some (32, false)), 0, 0⟩,
      ⟨(some 37), .load 1 false (.t 36), (some (32, false)), 0, 0⟩,
      ⟨(some 38), .len (.t 37), (some (32, false)), 0, 0⟩,
      ⟨(some 39), .bin .neq (.t 35) (.t 38), (some (32, false)), 0, 0⟩,
      ⟨(some 40), .pick (.t 32) (.c (.d (.sc (.bool true)))) (.t 39), none, 0, 0⟩] false)
    (.cond (.t 40)
     (.seq
      (.region [⟨(some 4), .mov (.c (.d (.sc (.bool false)))), none, 0, 0⟩] false)
      .ret)
     .skip))
   (.seq
    (.seq
     (.region [⟨(some 5), .mov (.c (.d (.sc (.int .i64 0)))), none, 0, 0⟩] false)
     (.block 0
      (.loop
       (.seq
        (.seq
         (.region [⟨(some 41), .mov (.t 5), none, 0, 0⟩,
           ⟨(some 42), .fieldAddr 3 (.t 2), none, 0, 0⟩,
           ⟨(some 43), .load 1 false (.t 42), none, 0, 0⟩,
           ⟨(some 44), .len (.t 43), none, 0, 0⟩,
           ⟨(some 45), .bin .lss (.t 41) (.t 44), none, 0, 0⟩] false)
         (.cond (.t 45)
          .skip
          (.exit 0)))
        (.seq
         (.block 1
          (.seq
           (.region [⟨(some 48), .fieldAddr 3 (.t 2), none, 0, 0⟩,
             ⟨(some 49), .load 1 false (.t 48), none, 1, 0⟩,
             ⟨(some 50), .mov (.t 5), none, 0, 0⟩,
             ⟨(some 51), .indexAddr 5 (.t 49) (.t 50), none, 7, 0⟩,
             ⟨(some 52), .load 5 true (.t 51), none, 15, 0⟩,
             ⟨(some 53), .fieldAddr 3 (.t 3), none, 0, 0⟩,
             ⟨(some 54), .load 1 false (.t 53), none, 32, 0⟩,
             ⟨(some 55), .mov (.t 5), none, 0, 0⟩,
             ⟨(some 56), .indexAddr 5 (.t 54) (.t 55), none, 224, 0⟩,
             ⟨(some 57), .load 5 true (.t 56), none, 480, 0⟩,
             ⟨(some 58), .callF 49 [(.t 52), (.t 57)], none, 1023, 0⟩,
             ⟨(some 59), .un .not (.t 58), none, 2047, 0⟩] true)
           (.cond (.t 59)
            (.seq
             (.region [⟨(some 4), .mov (.c (.d (.sc (.bool false)))), none, 0, 0⟩] false)
             .ret)
            .skip)))
         (.region [⟨(some 46), .mov (.t 5), none, 0, 0⟩,
           ⟨(some 47), .bin .add (.t 46) (.c (.d (.sc (.int .i64 1)))), none, 0, 0⟩,
           ⟨(some 5), .mov (.t 47), none, 0, 0⟩] false))))))
    (.seq
     (.region [⟨(some 4), .mov (.c (.d (.sc (.bool true)))), none, 0, 0⟩] false)
     .ret)))), false⟩
/-- wreckage/wreckageref39.Same -/
def t77 : AFn := ⟨2, 24, [.t 4],
 (.seq
  (.region [⟨(some 2), .box (.t 0), none, 0, 0⟩,
    ⟨(some 3), .box (.t 1), none, 0, 0⟩,
    ⟨(some 4), .mov (.c (.d (.sc (.bool false)))), none, 0, 0⟩] false)
  (.seq
   (.region [⟨(some 5), .fieldAddr 0 (.t 2), none, 0, 0⟩,
     ⟨(some 6), .load 1 false (.t 5), none, 0, 0⟩,
     ⟨(some 7), .fieldAddr 0 (.t 3), none, 0, 0⟩,
     ⟨(some 8), .load 1 false (.t 7), none, 0, 0⟩,
     ⟨(some 9), .bin .eql (.t 6) (.t 8), none, 0, 0⟩,
     ⟨(some 10), .mov (.t 9), none, 0, 0⟩,
     ⟨(some 11), .fieldAddr 6 (.t 2), (some (10, true)), 0, 0⟩,
     ⟨(some 12), .load 1 false (.t 11), (some (10, true)), 0, 0⟩,
     ⟨(some 13), .fieldAddr 6 (.t 3), (some (10, true)), 0, 0⟩,
     ⟨(some 14), .load 1 false (.t 13), (some (10, true)), 0, 0⟩,
     ⟨(some 15), .bin .eql (.t 12) (.t 14), (some (10, true)), 0, 0⟩,
     ⟨(some 16), .pick (.t 10) (.t 15) (.c (.d (.sc (.bool false)))), none, 0, 0⟩,
     ⟨(some 17), .mov (.t 16), none, 0, 0⟩,
     ⟨(some 18), .fieldAddr 1 (.t 2), (some (17, true)), 0, 0⟩,
     ⟨(some 19), .load 5 true (.t 18), (some (17, true)), 0, 0⟩,
     ⟨(some 20), .fieldAddr 1 (.t 3), (some (17, true)), 0, 0⟩,
     ⟨(some 21), .load 5 true (.t 20), (some (17, true)), 0, 0⟩,
     ⟨(some 22), .callF 49 [(.t 19), (.t 21)], (some (17, true)), 0, 0⟩,
     ⟨(some 23), .pick (.t 17) (.t 22) (.c (.d (.sc (.bool false)))), none, 0, 0⟩,
     ⟨(some 4), .mov (.t 23), none, 0, 0⟩] false)
   .ret)), false⟩
/-- wreckage/wreckageref39.SameAll -/
def t48 : AFn := ⟨2, 27, [.t 4],
 (.seq
  (.region [⟨(some 4), .mov (.c (.d (.sc (.bool false)))), none, 0, 0⟩] false)
  (.seq
   (.seq
    (.region [⟨(some 6), .mov (.t 0), none, 0, 0⟩,
      ⟨(some 7), .len (.t 6), none, 0, 0⟩,
      ⟨(some 8), .mov (.t 1), none, 0, 0⟩,
      ⟨(some 9), .len (.t 8), none, 0, 0⟩,
      ⟨(some 10), .bin .neq (.t 7) (.t 9), none, 0, 0⟩] false)
    (.cond (.t 10)
     (.seq
      (.region [⟨(some 4), .mov (.c (.d (.sc (.bool false)))), none, 0, 0⟩] false)
      .ret)
     .skip))
   (.seq
    (.seq
     (.region [⟨(some 5), .mov (.c (.d (.sc (.int .i64 0)))), none, 0, 0⟩] false)
     (.block 0
      (.loop
       (.seq
        (.seq
         (.region [⟨(some 11), .mov (.t 5), none, 0, 0⟩,
           ⟨(some 12), .mov (.t 0), none, 0, 0⟩,
           ⟨(some 13), .len (.t 12), none, 0, 0⟩,
           ⟨(some 14), .bin .lss (.t 11) (.t 13), none, 0, 0⟩] false)
         (.cond (.t 14)
          .skip
          (.exit 0)))
        (.seq
         (.block 1
          (.seq
           (.region [⟨(some 17), .mov (.t 0), none, 0, 0⟩,
             ⟨(some 18), .mov (.t 5), none, 0, 0⟩,
             ⟨(some 19), .indexAddr 7 (.t 17) (.t 18), none, 3, 0⟩,
             ⟨(some 20), .load 7 true (.t 19), none, 7, 0⟩,
             ⟨(some 21), .mov (.t 1), none, 0, 0⟩,
             ⟨(some 22), .mov (.t 5), none, 0, 0⟩,
             ⟨(some 23), .indexAddr 7 (.t 21) (.t 22), none, 48, 0⟩,
             ⟨(some 24), .load 7 true (.t 23), none, 112, 0⟩,
             ⟨(some 25), .callF 77 [(.t 20), (.t 24)], none, 255, 0⟩,
             ⟨(some 26), .un .not (.t 25), none, 511, 0⟩] true)
           (.cond (.t 26)
            (.seq
             (.region [⟨(some 4), .mov (.c (.d (.sc (.bool false)))), none, 0, 0⟩] false)
             .ret)
            .skip)))
         (.region [⟨(some 15), .mov (.t 5), none, 0, 0⟩,
           ⟨(some 16), .bin .add (.t 15) (.c (.d (.sc (.int .i64 1)))), none, 0, 0⟩,
           ⟨(some 5), .mov (.t 16), none, 0, 0⟩] false))))))
    (.seq
     (.region [⟨(some 4), .mov (.c (.d (.sc (.bool true)))), none, 0, 0⟩] false)
     .ret)))), false⟩
/-- wreckage/wreckageref38.SameLocals -/
def t44 : AFn := ⟨2, 42, [.t 4],
 (.seq
  (.region [⟨(some 4), .mov (.c (.d (.sc (.bool false)))), none, 0, 0⟩] false)
  (.seq
   (.seq
    (.region [⟨(some 6), .mov (.t 0), none, 0, 0⟩,
      ⟨(some 7), .len (.t 6), none, 0, 0⟩,
      ⟨(some 8), .mov (.t 1), none, 0, 0⟩,
      ⟨(some 9), .len (.t 8), none, 0, 0⟩,
      ⟨(some 10), .bin .neq (.t 7) (.t 9), none, 0, 0⟩] false)
    (.cond (.t 10)
     (.seq
      (.region [⟨(some 4), .mov (.c (.d (.sc (.bool false)))), none, 0, 0⟩] false)
      .ret)
     .skip))
   (.seq
    (.seq
     (.region [⟨(some 5), .mov (.c (.d (.sc (.int .i64 0)))), none, 0, 0⟩] false)
     (.block 0
      (.loop
       (.seq
        (.seq
         (.region [⟨(some 11), .mov (.t 5), none, 0, 0⟩,
           ⟨(some 12), .mov (.t 0), none, 0, 0⟩,
           ⟨(some 13), .len (.t 12), none, 0, 0⟩,
           ⟨(some 14), .bin .lss (.t 11) (.t 13), none, 0, 0⟩] false)
         (.cond (.t 14)
          .skip
          (.exit 0)))
        (.seq
         (.block 1
          (.seq
           (.region [⟨(some 17), .mov (.t 0), none, 0, 0⟩,
             ⟨(some 18), .mov (.t 5), none, 0, 0⟩,
             ⟨(some 19), .indexAddr 6 (.t 17) (.t 18), none, 3, 0⟩,
             ⟨(some 20), .fieldAddr 0 (.t 19), none, 7, 0⟩,
             ⟨(some 21), .load 1 false (.t 20), none, 15, 0⟩,
             ⟨(some 22), .mov (.t 1), none, 0, 0⟩,
             ⟨(some 23), .mov (.t 5), none, 0, 0⟩,
             ⟨(some 24), .indexAddr 6 (.t 22) (.t 23), none, 96, 0⟩,
             ⟨(some 25), .fieldAddr 0 (.t 24), none, 224, 0⟩,
             ⟨(some 26), .load 1 false (.t 25), none, 480, 0⟩,
             ⟨(some 27), .bin .neq (.t 21) (.t 26), none, 1023, 0⟩,
             ⟨(some 28), .mov (.t 27), none, 2047, 0⟩,
             ⟨(some 29), .mov (.t 0), (some (28, false)), 4095, 0⟩,
             ⟨(some 30), .mov (.t 5), (some (28, false)), 4095, 0⟩,
             ⟨(some 31), .indexAddr 6 (.t 29) (.t 30), (some (28, false)), 16383, 0⟩,
             ⟨(some 32), .fieldAddr 1 (.t 31), (some (28, false)), 32767, 0⟩,
             ⟨(some 33), .load 5 true (.t 32), (some (28, false)), 65535, 0⟩,
             ⟨(some 34), .mov (.t 1), (some (28, false)), 4095, 0⟩,
             ⟨(some 35), .mov (.t 5), (some (28, false)), 4095, 0⟩,
             ⟨(some 36), .indexAddr 6 (.t 34) (.t 35), (some (28, false)), 397311, 0⟩,
             ⟨(some 37), .fieldAddr 1 (.t 36), (some (28, false)), 921599, 0⟩,
             ⟨(some 38), .load 5 true (.t 37), (some (28, false)), 1970175, 0⟩,
             ⟨(some 39), .callF 49 [(.t 33), (.t 38)], (some (28, false)), 4194303, 0⟩,
             ⟨(some 40), .un .not (.t 39), (some (28, false)), 8388607, 0⟩,
             ⟨(some 41), .pick (.t 28) (.c (.d (.sc (.bool true)))) (.t 40), none, 16777215, 0⟩] true)
           (.cond (.t 41)
            (.seq
             (.region [⟨(some 4), .mov (.c (.d (.sc (.bool false)))), none, 0, 0⟩] false)
             .ret)
            .skip)))
         (.region [⟨(some 15), .mov (.t 5), none, 0, 0⟩,
           ⟨(some 16), .bin .add (.t 15) (.c (.d (.sc (.int .i64 1)))), none, 0, 0⟩,
           ⟨(some 5), .mov (.t 16), none, 0, 0⟩] false))))))
    (.seq
     (.region [⟨(some 4), .mov (.c (.d (.sc (.bool true)))), none, 0, 0⟩] false)
     .ret)))), false⟩
/-- wreckage/wreckageref38.SameFrame -/
def t20 : AFn := ⟨2, 31, [.t 4],
 (.seq
  (.region [⟨(some 2), .box (.t 0), none, 0, 0⟩,
    ⟨(some 3), .box (.t 1), none, 0, 0⟩,
    ⟨(some 4), .mov (.c (.d (.sc (.bool false)))), none, 0, 0⟩] false)
  (.seq
   (.region [⟨(some 5), .fieldAddr 0 (.t 2), none, 0, 0⟩,
     ⟨(some 6), .load 1 false (.t 5), none, 0, 0⟩,
     ⟨(some 7), .fieldAddr 0 (.t 3), none, 0, 0⟩,
     ⟨(some 8), .load 1 false (.t 7), none, 0, 0⟩,
     ⟨(some 9), .bin .eql (.t 6) (.t 8), none, 0, 0⟩,
     ⟨(some 10), .mov (.t 9), none, 0, 0⟩,
     ⟨(some 11), .fieldAddr 1 (.t 2), (some (10, true)), 0, 0⟩,
     ⟨(some 12), .load 1 false (.t 11), (some (10, true)), 0, 0⟩,
     ⟨(some 13), .fieldAddr 1 (.t 3), (some (10, true)), 0, 0⟩,
     ⟨(some 14), .load 1 false (.t 13), (some (10, true)), 0, 0⟩,
     ⟨(some 15), .bin .eql (.t 12) (.t 14), (some (10, true)), 0, 0⟩,
     ⟨(some 16), .pick (.t 10) (.t 15) (.c (.d (.sc (.bool false)))), none, 0, 0⟩,
     ⟨(some 17), .mov (.t 16), none, 0, 0⟩,
     ⟨(some 18), .fieldAddr 2 (.t 2), (some (17, true)), 0, 0⟩,
     ⟨(some 19), .load 1 false (.t 18), (some (17, true)), 0, 0⟩,
     ⟨(some 20), .fieldAddr 2 (.t 3), (some (17, true)), 0, 0⟩,
     ⟨(some 21), .load 1 false (.t 20), (some (17, true)), 0, 0⟩,
     ⟨(some 22), .bin .eql (.t 19) (.t 21), (some (17, true)), 0, 0⟩,
     ⟨(some 23), .pick (.t 17) (.t 22) (.c (.d (.sc (.bool false)))), none, 0, 0⟩,
     ⟨(some 24), .mov (.t 23), none, 0, 0⟩,
     ⟨(some 25), .fieldAddr 3 (.t 2), (some (24, true)), 0, 0⟩,
     ⟨(some 26), .load 1 false (.t 25), (some (24, true)), 0, 0⟩,
     ⟨(some 27), .fieldAddr 3 (.t 3), (some (24, true)), 0, 0⟩,
     ⟨(some 28), .load 1 false (.t 27), (some (24, true)), 0, 0⟩,
     ⟨(some 29), .callF 44 [(.t 26), (.t 28)], (some (24, true)), 0, 0⟩,
     ⟨(some 30), .pick (.t 24) (.t 29) (.c (.d (.sc (.bool false)))), none, 0, 0⟩,
     ⟨(some 4), .mov (.t 30), none, 0, 0⟩] false)
   .ret)), false⟩
/-- wreckage/wreckageref40.SameRoutine -/
def t23 : AFn := ⟨2, 110, [.t 4],
 (.seq
  (.region [⟨(some 2), .box (.t 0), none, 0, 0⟩,
    ⟨(some 3), .box (.t 1), none, 0, 0⟩,
    ⟨(some 4), .mov (.c (.d (.sc (.bool false)))), none, 0, 0⟩] false)
  (.seq
   (.seq
    (.region [⟨(some 9), .fieldAddr 0 (.t 2), none, 0, 0⟩,
      ⟨(some 10), .load 1 false (.t 9), none, 0, 0⟩,
      ⟨(some 11), .fieldAddr 0 (.t 3), none, 0, 0⟩,
      ⟨(some 12), .load 1 false (.t 11), none, 0, 0⟩,
      ⟨(some 13), .bin .neq (.t 10) (.t 12), none, 0, 0⟩,
      ⟨(some 14), .mov (.t 13), none, 0, 0⟩,
      ⟨(some 15), .fieldAddr 1 (.t 2), (some (14, false)), 0, 0⟩,
      ⟨(some 16), .load 1 false (.t 15), (some (14, false)), 0, 0⟩,
      ⟨(some 17), .fieldAddr 1 (.t 3), (some (14, false)), 0, 0⟩,
      ⟨(some 18), .load 1 false (.t 17), (some (14, false)), 0, 0⟩,
      ⟨(some 19), .bin .neq (.t 16) (.t 18), (some (14, false)), 0, 0⟩,
      ⟨(some 20), .pick (.t 14) (.c (.d (.sc (.bool true)))) (.t 19), none, 0, 0⟩,
      ⟨(some 21), .mov (.t 20), none, 0, 0⟩,
      ⟨(some 22), .fieldAddr 2 (.t 2), (some (21, false)), 0, 0⟩,
      ⟨(some 23), .load 1 false (.t 22), (some (21, false)), 0, 0⟩,
      ⟨(some 24), .len (.t 23), (some (21, false)), 0, 0⟩,
      ⟨(some 25), .fieldAddr 2 (.t 3), (some (21, false)), 0, 0⟩,
      ⟨(some 26), .load 1 false (.t 25), (some (21, false)), 0, 0⟩,
      ⟨(some 27), .len (.t 26), (some (21, false)), 0, 0⟩,
      ⟨(some 28), .bin .neq (.t 24) (.t 27), (some (21, false)), 0, 0⟩,
      ⟨(some 29), .pick (.t 21) (.c (.d (.sc (.bool true)))) (.t 28), none, 0, 0⟩,
      ⟨(some 30), .mov (.t 29), none, 0, 0⟩,
      ⟨(some 31), .fieldAddr 3 (.t 2), (some (30, false)), 0, 0⟩,
      ⟨(some 32), .load 1 false (.t 31), (some (30, false)), 0, 0⟩,
      ⟨(some 33), .len (.t 32), (some (30, false)), 0, 0⟩,
      ⟨(some 34), .fieldAddr 3 (.t 3), (some (30, false)), 0, 0⟩,
      ⟨(some 35), .load 1 false (.t 34), (some (30, false)), 0, 0⟩,
      ⟨(some 36), .len (.t 35), (some (30, false)), 0, 0⟩,
      ⟨(some 37), .bin .neq (.t 33) (.t 36), (some (30, false)), 0, 0⟩,
      ⟨(some 38), .pick (.t 30) (.c (.d (.sc (.bool true)))) (.t 37), none, 0, 0⟩,
      ⟨(some 39), .mov (.t 38), none, 0, 0⟩,
      ⟨(some 40), .fieldAddr 4 (.t 2), (some (39, false)), 0, 0⟩,
      ⟨(some 41), .load 1 false (.t 40), (some (39, false)), 0, 0⟩,
      ⟨(some 42), .fieldAddr 4 (.t 3), (some (39, false)), 0, 0⟩,
      ⟨(some 43), .load 1 false (.t 42), (some (39, false)), 0, 0⟩,
      ⟨(some 44), .callF 48 [(.t 41), (.t 43)], (some (39, false)), 0, 0⟩,
      ⟨(some 45), .un .not (.t 44), (some (39, false)), 0, 0⟩,
      ⟨(some 46), .pick (.t 39) (.c (.d (.sc (.bool true)))) (.t 45), none, 0, 0⟩] false)
    (.cond (.t 46)
     (.seq
      (.region [⟨(some 4), .mov (.c (.d (.sc (.bool false)))), none, 0, 0⟩] false)
      .ret)
     .skip))
   (.seq
    (.seq
     (.region [⟨(some 5), .mov (.c (.d (.sc (.int .i64 0)))), none, 0, 0⟩] false)
     (.block 0
      (.loop
       (.seq
        (.seq
         (.region [⟨(some 47), .mov (.t 5), none, 0, 0⟩,
           ⟨(some 48), .fieldAddr 2 (.t 2), none, 0, 0⟩,
           ⟨(some 49), .load 1 false (.t 48), none, 0, 0⟩,
           ⟨(some 50), .len (.t 49), none, 0, 0⟩,
           ⟨(some 51), .bin .lss (.t 47) (.t 50), none, 0, 0⟩] false)
         (.cond (.t 51)
          .skip
          (.exit 0)))
        (.seq
         (.block 1
          (.seq
           (.region [⟨(some 54), .fieldAddr 2 (.t 2), none, 0, 0⟩,
             ⟨(some 55), .load 1 false (.t 54), none, 1, 0⟩,
             ⟨(some 56), .mov (.t 5), none, 0, 0⟩,
             ⟨(some 57), .indexAddr 4 (.t 55) (.t 56), none, 7, 0⟩,
             ⟨(some 58), .load 4 true (.t 57), none, 15, 0⟩,
             ⟨(some 59), .fieldAddr 2 (.t 3), none, 0, 0⟩,
             ⟨(some 60), .load 1 false (.t 59), none, 32, 0⟩,
             ⟨(some 61), .mov (.t 5), none, 0, 0⟩,
             ⟨(some 62), .indexAddr 4 (.t 60) (.t 61), none, 224, 0⟩,
             ⟨(some 63), .load 4 true (.t 62), none, 480, 0⟩,
             ⟨(some 64), .callF 20 [(.t 58), (.t 63)], none, 1023, 0⟩,
             ⟨(some 65), .un .not (.t 64), none, 2047, 0⟩] true)
           (.cond (.t 65)
            (.seq
             (.region [⟨(some 4), .mov (.c (.d (.sc (.bool false)))), none, 0, 0⟩] false)
             .ret)
            .skip)))
         (.region [⟨(some 52), .mov (.t 5), none, 0, 0⟩,
           ⟨(some 53), .bin .add (.t 52) (.c (.d (.sc (.int .i64 1)))), none, 0, 0⟩,
           ⟨(some 5), .mov (.t 53), none, 0, 0⟩] false))))))
    (.seq
     (.seq
      (.region [⟨(some 6), .mov (.c (.d (.sc (.int .i64 0)))), none, 0, 0⟩] false)
      (.block 2
       (.loop
        (.seq
         (.seq
          (.region [⟨(some 66), .mov (.t 6), none, 0, 0⟩,
            ⟨(some 67), .fieldAddr 3 (.t 2), none, 0, 0⟩,
            ⟨(some 68), .load 1 false (.t 67), none, 0, 0⟩,
            ⟨(some 69), .len (.t 68), none, 0, 0⟩,
            ⟨(some 70), .bin .lss (.t 66) (.t 69), none, 0, 0⟩] false)
          (.cond (.t 70)
           .skip
           (.exit 2)))
         (.seq
          (.block 3
           (.seq
            (.region [⟨(some 73), .fieldAddr 3 (.t 2), none, 0, 0⟩,
              ⟨(some 74), .load 1 false (.t 73), none, 1, 0⟩,
              ⟨(some 75), .mov (.t 6), none, 0, 0⟩,
              ⟨(some 76), .indexAddr 8 (.t 74) (.t 75), none, 7, 0⟩,
              ⟨(some 77), .load 8 true (.t 76), none, 15, 0⟩,
              ⟨(some 78), .fieldAddr 3 (.t 3), none, 0, 0⟩,
              ⟨(some 79), .load 1 false (.t 78), none, 32, 0⟩,
              ⟨(some 80), .mov (.t 6), none, 0, 0⟩,
              ⟨(some 81), .indexAddr 8 (.t 79) (.t 80), none, 224, 0⟩,
              ⟨(some 82), .load 8 true (.t 81), none, 480, 0⟩,
              ⟨(some 7), .alloc [(.d (.sc (.int .i64 0))), (.d (.sc (.int .i64 0))), (.d (.sc (.bool false))), (.d (.sc (.int .u8 0))), (.d (.sc (.int .i64 0))), (.d (.sc (.string ⟨#[]⟩))), (.own [] .full), (.d (.sc (.bool false)))], none, 0, 0⟩,
              ⟨(some 8), .alloc [(.d (.sc (.int .i64 0))), (.d (.sc (.int .i64 0))), (.d (.sc (.bool false))), (.d (.sc (.int .u8 0))), (.d (.sc (.int .i64 0))), (.d (.sc (.string ⟨#[]⟩))), (.own [] .full), (.d (.sc (.bool false)))], none, 0, 0⟩,
              ⟨none, .store 8 (.t 7) (.t 77), none, 3103, 0⟩,
              ⟨none, .store 8 (.t 8) (.t 82), none, 8191, 0⟩] true)
            (.seq
             (.region [⟨(some 83), .fieldAddr 0 (.t 7), none, 0, 0⟩,
               ⟨(some 84), .load 1 false (.t 83), none, 0, 0⟩,
               ⟨(some 85), .fieldAddr 0 (.t 8), none, 0, 0⟩,
               ⟨(some 86), .load 1 false (.t 85), none, 0, 0⟩,
               ⟨(some 87), .bin .neq (.t 84) (.t 86), none, 0, 0⟩,
               ⟨(some 88), .mov (.t 87), none, 0, 0⟩,
               ⟨(some 89), .fieldAddr 1 (.t 7), (some (88, false)), 0, 0⟩,
               ⟨(some 90), .load 1 false (.t 89), (some (88, false)), 0, 0⟩,
               ⟨(some 91), .fieldAddr 1 (.t 8), (some (88, false)), 0, 0⟩,
               ⟨(some 92), .load 1 false (.t 91), (some (88, false)), 0, 0⟩,
               ⟨(some 93), .bin .neq (.t 90) (.t 92), (some (88, false)), 0, 0⟩,
               ⟨(some 94), .pick (.t 88) (.c (.d (.sc (.bool true)))) (.t 93), none, 0, 0⟩,
               ⟨(some 95), .mov (.t 94), none, 0, 0⟩,
               ⟨(some 96), .fieldAddr 2 (.t 7), (some (95, false)), 0, 0⟩,
               ⟨(some 97), .load 1 false (.t 96), (some (95, false)), 0, 0⟩,
               ⟨(some 98), .fieldAddr 2 (.t 8), (some (95, false)), 0, 0⟩,
               ⟨(some 99), .load 1 false (.t 98), (some (95, false)), 0, 0⟩,
               ⟨(some 100), .eqb true (.t 97) (.t 99), (some (95, false)), 0, 0⟩,
               ⟨(some 101), .pick (.t 95) (.c (.d (.sc (.bool true)))) (.t 100), none, 0, 0⟩,
               ⟨(some 102), .mov (.t 101), none, 0, 0⟩,
               ⟨(some 103), .fieldAddr 3 (.t 7), (some (102, false)), 0, 0⟩,
               ⟨(some 104), .load 5 true (.t 103), (some (102, false)), 0, 0⟩,
               ⟨(some 105), .fieldAddr 3 (.t 8), (some (102, false)), 0, 0⟩,
               ⟨(some 106), .load 5 true (.t 105), (some (102, false)), 0, 0⟩,
               ⟨(some 107), .callF 49 [(.t 104), (.t 106)], (some (102, false)), 0, 0⟩,
               ⟨(some 108), .un .not (.t 107), (some (102, false)), 0, 0⟩,
               ⟨(some 109), .pick (.t 102) (.c (.d (.sc (.bool true)))) (.t 108), none, 0, 0⟩] false)
             (.cond (.t 109)
              (.seq
               (.region [⟨(some 4), .mov (.c (.d (.sc (.bool false)))), none, 0, 0⟩] false)
               .ret)
              .skip))))
          (.region [⟨(some 71), .mov (.t 6), none, 0, 0⟩,
            ⟨(some 72), .bin .add (.t 71) (.c (.d (.sc (.int .i64 1)))), none, 0, 0⟩,
            ⟨(some 6), .mov (.t 72), none, 0, 0⟩] false))))))
     (.seq
      (.region [⟨(some 4), .mov (.c (.d (.sc (.bool true)))), none, 0, 0⟩] false)
      .ret))))), false⟩
/-- wreckage/wreckageref43.SameEdit -/
def t38 : AFn := ⟨2, 52, [.t 4],
 (.seq
  (.region [⟨(some 2), .box (.t 0), none, 0, 0⟩,
    ⟨(some 3), .box (.t 1), none, 0, 0⟩,
    ⟨(some 4), .mov (.c (.d (.sc (.bool false)))), none, 0, 0⟩] false)
  (.seq
   (.region [⟨(some 5), .fieldAddr 0 (.t 2), none, 0, 0⟩,
     ⟨(some 6), .load 1 false (.t 5), none, 0, 0⟩,
     ⟨(some 7), .fieldAddr 0 (.t 3), none, 0, 0⟩,
     ⟨(some 8), .load 1 false (.t 7), none, 0, 0⟩,
     ⟨(some 9), .bin .eql (.t 6) (.t 8), none, 0, 0⟩,
     ⟨(some 10), .mov (.t 9), none, 0, 0⟩,
     ⟨(some 11), .fieldAddr 1 (.t 2), (some (10, true)), 0, 0⟩,
     ⟨(some 12), .load 1 false (.t 11), (some (10, true)), 0, 0⟩,
     ⟨(some 13), .fieldAddr 1 (.t 3), (some (10, true)), 0, 0⟩,
     ⟨(some 14), .load 1 false (.t 13), (some (10, true)), 0, 0⟩,
     ⟨(some 15), .bin .eql (.t 12) (.t 14), (some (10, true)), 0, 0⟩,
     ⟨(some 16), .pick (.t 10) (.t 15) (.c (.d (.sc (.bool false)))), none, 0, 0⟩,
     ⟨(some 17), .mov (.t 16), none, 0, 0⟩,
     ⟨(some 18), .fieldAddr 2 (.t 2), (some (17, true)), 0, 0⟩,
     ⟨(some 19), .load 1 false (.t 18), (some (17, true)), 0, 0⟩,
     ⟨(some 20), .fieldAddr 2 (.t 3), (some (17, true)), 0, 0⟩,
     ⟨(some 21), .load 1 false (.t 20), (some (17, true)), 0, 0⟩,
     ⟨(some 22), .bin .eql (.t 19) (.t 21), (some (17, true)), 0, 0⟩,
     ⟨(some 23), .pick (.t 17) (.t 22) (.c (.d (.sc (.bool false)))), none, 0, 0⟩,
     ⟨(some 24), .mov (.t 23), none, 0, 0⟩,
     ⟨(some 25), .fieldAddr 3 (.t 2), (some (24, true)), 0, 0⟩,
     ⟨(some 26), .load 1 false (.t 25), (some (24, true)), 0, 0⟩,
     ⟨(some 27), .fieldAddr 3 (.t 3), (some (24, true)), 0, 0⟩,
     ⟨(some 28), .load 1 false (.t 27), (some (24, true)), 0, 0⟩,
     ⟨(some 29), .bin .eql (.t 26) (.t 28), (some (24, true)), 0, 0⟩,
     ⟨(some 30), .pick (.t 24) (.t 29) (.c (.d (.sc (.bool false)))), none, 0, 0⟩,
     ⟨(some 31), .mov (.t 30), none, 0, 0⟩,
     ⟨(some 32), .fieldAddr 4 (.t 2), (some (31, true)), 0, 0⟩,
     ⟨(some 33), .load 1 false (.t 32), (some (31, true)), 0, 0⟩,
     ⟨(some 34), .fieldAddr 4 (.t 3), (some (31, true)), 0, 0⟩,
     ⟨(some 35), .load 1 false (.t 34), (some (31, true)), 0, 0⟩,
     ⟨(some 36), .bin .eql (.t 33) (.t 35), (some (31, true)), 0, 0⟩,
     ⟨(some 37), .pick (.t 31) (.t 36) (.c (.d (.sc (.bool false)))), none, 0, 0⟩,
     ⟨(some 38), .mov (.t 37), none, 0, 0⟩,
     ⟨(some 39), .fieldAddr 5 (.t 2), (some (38, true)), 0, 0⟩,
     ⟨(some 40), .load 1 false (.t 39), (some (38, true)), 0, 0⟩,
     ⟨(some 41), .fieldAddr 5 (.t 3), (some (38, true)), 0, 0⟩,
     ⟨(some 42), .load 1 false (.t 41), (some (38, true)), 0, 0⟩,
     ⟨(some 43), .bin .eql (.t 40) (.t 42), (some (38, true)), 0, 0⟩,
     ⟨(some 44), .pick (.t 38) (.t 43) (.c (.d (.sc (.bool false)))), none, 0, 0⟩,
     ⟨(some 45), .mov (.t 44), none, 0, 0⟩,
     ⟨(some 46), .fieldAddr 6 (.t 2), (some (45, true)), 0, 0⟩,
     ⟨(some 47), .load 5 true (.t 46), (some (45, true)), 0, 0⟩,
     ⟨(some 48), .fieldAddr 6 (.t 3), (some (45, true)), 0, 0⟩,
     ⟨(some 49), .load 5 true (.t 48), (some (45, true)), 0, 0⟩,
     ⟨(some 50), .callF 23 [(.t 47), (.t 49)], (some (45, true)), 0, 0⟩,
     ⟨(some 51), .pick (.t 45) (.t 50) (.c (.d (.sc (.bool false)))), none, 0, 0⟩,
     ⟨(some 4), .mov (.t 51), none, 0, 0⟩] false)
   .ret)), false⟩
/-- wreckage/wreckageref43.Check -/
def t27 : AFn := ⟨1, 98, [.t 2],
 (.seq
  (.region [⟨(some 1), .box (.t 0), none, 0, 0⟩,
    ⟨(some 2), .mov (.c (.d (.sc (.int .i64 0)))), none, 0, 0⟩] false)
  (.seq
   (.region [⟨(some 5), .fieldAddr 0 (.t 1), none, 0, 0⟩,
     ⟨(some 6), .load 1 false (.t 5), none, 0, 0⟩,
     ⟨(some 7), .build [(.d (.sc (.int .u8 0))), (.d (.sc (.int .i64 0))), (.d (.sc (.int .i64 0))), (.d (.sc (.int .u8 0))), (.d (.sc (.int .i64 0))), (.d (.sc (.int .i64 0))), (.d (.sc (.int .u8 0))), (.d (.sc (.int .i64 0))), (.own [] .full), (.own [] .full), (.own [] .full)] [(0, 1, (.t 6))], none, 0, 0⟩,
     ⟨(some 3), .alloc [(.d (.sc (.int .u8 0))), (.d (.sc (.int .i64 0))), (.d (.sc (.int .i64 0))), (.d (.sc (.int .u8 0))), (.d (.sc (.int .i64 0))), (.d (.sc (.int .i64 0))), (.d (.sc (.int .u8 0))), (.d (.sc (.int .i64 0))), (.own [] .full), (.own [] .full), (.own [] .full)], none, 0, 0⟩,
     ⟨none, .store 11 (.t 3) (.t 7), none, 0, 0⟩] false)
   (.seq
    (.region [⟨(some 8), .fieldAddr 6 (.t 1), none, 0, 0⟩,
      ⟨(some 9), .load 5 true (.t 8), none, 0, 0⟩,
      ⟨(some 4), .alloc [(.d (.sc (.int .u8 0))), (.d (.sc (.int .i64 0))), (.own [] .full), (.own [] .full), (.own [] .full)], none, 0, 0⟩,
      ⟨none, .store 5 (.t 4) (.t 9), none, 0, 0⟩] false)
    (.seq
     (.seq
      (.region [⟨(some 10), .fieldAddr 0 (.t 1), none, 0, 0⟩,
        ⟨(some 11), .load 1 false (.t 10), none, 0, 0⟩,
        ⟨(some 12), .bin .geq (.t 11) (.c (.d (.sc (.int .u8 2)))), none, 0, 0⟩,
        ⟨(some 13), .mov (.t 12), none, 0, 0⟩,
        ⟨(some 14), .fieldAddr 0 (.t 1), (some (13, true)), 0, 0⟩,
        ⟨(some 15), .load 1 false (.t 14), (some (13, true)), 0, 0⟩,
        ⟨(some 16), .bin .leq (.t 15) (.c (.d (.sc (.int .u8 6)))), (some (13, true)), 0, 0⟩,
        ⟨(some 17), .pick (.t 13) (.t 16) (.c (.d (.sc (.bool false)))), none, 0, 0⟩] false)
      (.cond (.t 17)
       (.region [⟨(some 18), .fieldAddr 1 (.t 1), none, 0, 0⟩,
         ⟨(some 19), .load 1 false (.t 18), none, 0, 0⟩,
         ⟨(some 20), .fieldAddr 1 (.t 3), none, 0, 0⟩,
         ⟨none, .store 1 (.t 20) (.t 19), none, 0, 0⟩] false)
       .skip))
     (.seq
      (.seq
       (.region [⟨(some 21), .fieldAddr 0 (.t 1), none, 0, 0⟩,
         ⟨(some 22), .load 1 false (.t 21), none, 0, 0⟩] false)
       (.block 0
        (.seq
         (.region [⟨(some 24), .bin .eql (.t 22) (.c (.d (.sc (.int .u8 1)))), none, 0, 0⟩,
           ⟨(some 23), .mov (.t 24), none, 0, 0⟩] false)
         (.cond (.t 23)
          (.region [⟨(some 25), .fieldAddr 3 (.t 1), none, 0, 0⟩,
            ⟨(some 26), .load 1 false (.t 25), none, 1, 0⟩,
            ⟨(some 27), .fieldAddr 4 (.t 1), none, 0, 0⟩,
            ⟨(some 28), .load 1 false (.t 27), none, 4, 0⟩,
            ⟨(some 29), .fieldAddr 5 (.t 1), none, 0, 0⟩,
            ⟨(some 30), .load 1 false (.t 29), none, 16, 0⟩,
            ⟨(some 31), .fieldAddr 3 (.t 3), none, 3, 0⟩,
            ⟨none, .store 1 (.t 31) (.t 26), none, 67, 0⟩,
            ⟨(some 32), .fieldAddr 4 (.t 3), none, 207, 0⟩,
            ⟨none, .store 1 (.t 32) (.t 28), none, 463, 0⟩,
            ⟨(some 33), .fieldAddr 5 (.t 3), none, 1023, 0⟩,
            ⟨none, .store 1 (.t 33) (.t 30), none, 2047, 0⟩] true)
          (.seq
           (.region [⟨(some 35), .bin .eql (.t 22) (.c (.d (.sc (.int .u8 2)))), none, 0, 0⟩,
             ⟨(some 34), .mov (.t 35), none, 0, 0⟩] false)
           (.cond (.t 34)
            (.region [⟨(some 36), .fieldAddr 0 (.t 4), none, 0, 0⟩,
              ⟨(some 37), .load 1 false (.t 36), none, 0, 0⟩,
              ⟨(some 38), .fieldAddr 1 (.t 4), none, 0, 0⟩,
              ⟨(some 39), .load 1 false (.t 38), none, 0, 0⟩,
              ⟨(some 40), .build [(.d (.sc (.int .u8 0))), (.d (.sc (.int .i64 0))), (.own [] .full), (.own [] .full), (.own [] .full)] [(0, 1, (.t 37)), (1, 1, (.t 39))], none, 0, 0⟩,
              ⟨(some 41), .fieldAddr 6 (.t 3), none, 0, 0⟩,
              ⟨none, .store 5 (.t 41) (.t 40), none, 0, 0⟩] false)
            (.seq
             (.region [⟨(some 43), .bin .eql (.t 22) (.c (.d (.sc (.int .u8 3)))), none, 0, 0⟩,
               ⟨(some 42), .mov (.t 43), none, 0, 0⟩] false)
             (.cond (.t 42)
              (.region [⟨(some 44), .fieldAddr 2 (.t 1), none, 0, 0⟩,
                ⟨(some 45), .load 1 false (.t 44), none, 1, 0⟩,
                ⟨(some 46), .fieldAddr 2 (.t 4), none, 0, 0⟩,
                ⟨(some 47), .load 1 false (.t 46), none, 4, 0⟩,
                ⟨(some 48), .build [(.d (.sc (.int .u8 0))), (.d (.sc (.int .i64 0))), (.own [] .full), (.own [] .full), (.own [] .full)] [(2, 1, (.t 47))], none, 12, 0⟩,
                ⟨(some 49), .fieldAddr 2 (.t 3), none, 3, 0⟩,
                ⟨none, .store 1 (.t 49) (.t 45), none, 35, 0⟩,
                ⟨(some 50), .fieldAddr 6 (.t 3), none, 127, 0⟩,
                ⟨none, .store 5 (.t 50) (.t 48), none, 255, 0⟩] true)
              (.seq
               (.region [⟨(some 52), .bin .eql (.t 22) (.c (.d (.sc (.int .u8 4)))), none, 0, 0⟩,
                 ⟨(some 51), .mov (.t 52), none, 0, 0⟩] false)
               (.cond (.t 51)
                (.region [⟨(some 53), .fieldAddr 3 (.t 4), none, 0, 0⟩,
                  ⟨(some 54), .load 1 false (.t 53), none, 0, 0⟩,
                  ⟨(some 55), .build [(.d (.sc (.int .u8 0))), (.d (.sc (.int .i64 0))), (.own [] .full), (.own [] .full), (.own [] .full)] [(3, 1, (.t 54))], none, 0, 0⟩,
                  ⟨(some 56), .fieldAddr 6 (.t 3), none, 0, 0⟩,
                  ⟨none, .store 5 (.t 56) (.t 55), none, 0, 0⟩] false)
                (.seq
                 (.region [⟨(some 58), .bin .eql (.t 22) (.c (.d (.sc (.int .u8 5)))), none, 0, 0⟩,
                   ⟨(some 57), .mov (.t 58), none, 0, 0⟩] false)
                 (.cond (.t 57)
                  (.region [⟨(some 59), .fieldAddr 4 (.t 4), none, 0, 0⟩,
                    ⟨(some 60), .load 1 false (.t 59), none, 0, 0⟩,
                    ⟨(some 61), .build [(.d (.sc (.int .u8 0))), (.d (.sc (.int .i64 0))), (.own [] .full), (.own [] .full), (.own [] .full)] [(4, 1, (.t 60))], none, 0, 0⟩,
                    ⟨(some 62), .fieldAddr 6 (.t 3), none, 0, 0⟩,
                    ⟨none, .store 5 (.t 62) (.t 61), none, 0, 0⟩] false)
                  (.seq
                   (.region [⟨(some 64), .bin .eql (.t 22) (.c (.d (.sc (.int .u8 6)))), none, 0, 0⟩,
                     ⟨(some 63), .mov (.t 64), none, 0, 0⟩] false)
                   (.cond (.t 63)
                    .skip
                    (.seq
                     (.region [⟨(some 66), .bin .eql (.t 22) (.c (.d (.sc (.int .u8 7)))), none, 0, 0⟩,
                       ⟨(some 65), .mov (.t 66), none, 0, 0⟩] false)
                     (.cond (.t 65)
                      (.region [⟨(some 67), .load 5 true (.t 4), none, 0, 0⟩,
                        ⟨(some 68), .fieldAddr 6 (.t 3), none, 0, 0⟩,
                        ⟨none, .store 5 (.t 68) (.t 67), none, 0, 0⟩] false)
                      (.seq
                       (.region [⟨(some 2), .mov (.c (.d (.sc (.int .i64 8)))), none, 0, 0⟩] false)
                       .ret)))))))))))))))))
      (.seq
       (.seq
        (.region [⟨(some 69), .load 11 true (.t 1), none, 0, 0⟩,
          ⟨(some 70), .load 11 true (.t 3), none, 0, 0⟩,
          ⟨(some 71), .callF 38 [(.t 69), (.t 70)], none, 0, 0⟩,
          ⟨(some 72), .un .not (.t 71), none, 0, 0⟩,
          ⟨(some 73), .mov (.t 72), none, 0, 0⟩,
          ⟨(some 74), .fieldAddr 1 (.t 1), (some (73, false)), 0, 0⟩,
          ⟨(some 75), .load 1 false (.t 74), (some (73, false)), 0, 0⟩,
          ⟨(some 76), .bin .lss (.t 75) (.c (.d (.sc (.int .i64 0)))), (some (73, false)), 0, 0⟩,
          ⟨(some 77), .pick (.t 73) (.c (.d (.sc (.bool true)))) (.t 76), none, 0, 0⟩,
          ⟨(some 78), .mov (.t 77), none, 0, 0⟩,
          ⟨(some 79), .fieldAddr 1 (.t 1), (some (78, false)), 0, 0⟩,
          ⟨(some 80), .load 1 false (.t 79), (some (78, false)), 0, 0⟩,
          ⟨(some 81), .bin .geq (.t 80) (.c (.d (.sc (.int .i64 16)))), (some (78, false)), 0, 0⟩,
          ⟨(some 82), .pick (.t 78) (.c (.d (.sc (.bool true)))) (.t 81), none, 0, 0⟩,
          ⟨(some 83), .mov (.t 82), none, 0, 0⟩,
          ⟨(some 84), .fieldAddr 2 (.t 1), (some (83, false)), 0, 0⟩,
          ⟨(some 85), .load 1 false (.t 84), (some (83, false)), 0, 0⟩,
          ⟨(some 86), .bin .lss (.t 85) (.c (.d (.sc (.int .i64 0)))), (some (83, false)), 0, 0⟩,
          ⟨(some 87), .pick (.t 83) (.c (.d (.sc (.bool true)))) (.t 86), none, 0, 0⟩,
          ⟨(some 88), .mov (.t 87), none, 0, 0⟩,
          ⟨(some 89), .fieldAddr 2 (.t 1), (some (88, false)), 0, 0⟩,
          ⟨(some 90), .load 1 false (.t 89), (some (88, false)), 0, 0⟩,
          ⟨(some 91), .bin .gtr (.t 90) (.c (.d (.sc (.int .i64 170)))), (some (88, false)), 0, 0⟩,
          ⟨(some 92), .pick (.t 88) (.c (.d (.sc (.bool true)))) (.t 91), none, 0, 0⟩,
          ⟨(some 93), .mov (.t 92), none, 0, 0⟩,
          ⟨(some 94), .load 5 true (.t 4), (some (93, false)), 0, 0⟩,
          ⟨(some 95), .callF 55 [(.t 94)], (some (93, false)), 0, 0⟩,
          ⟨(some 96), .un .not (.t 95), (some (93, false)), 0, 0⟩,
          ⟨(some 97), .pick (.t 93) (.c (.d (.sc (.bool true)))) (.t 96), none, 0, 0⟩] false)
        (.cond (.t 97)
         (.seq
          (.region [⟨(some 2), .mov (.c (.d (.sc (.int .i64 8)))), none, 0, 0⟩] false)
          .ret)
         .skip))
       (.seq
        (.region [⟨(some 2), .mov (.c (.d (.sc (.int .i64 0)))), none, 0, 0⟩] false)
        .ret))))))), false⟩
/-- wreckage/wreckageref43.All -/
def t53 : AFn := ⟨1, 22, [.t 2],
 (.seq
  (.region [⟨(some 2), .mov (.c (.d (.sc (.int .i64 0)))), none, 0, 0⟩] false)
  (.seq
   (.seq
    (.region [⟨(some 5), .mov (.t 0), none, 0, 0⟩,
      ⟨(some 6), .len (.t 5), none, 0, 0⟩,
      ⟨(some 7), .bin .gtr (.t 6) (.c (.d (.sc (.int .i64 100)))), none, 0, 0⟩] false)
    (.cond (.t 7)
     (.seq
      (.region [⟨(some 2), .mov (.c (.d (.sc (.int .i64 4)))), none, 0, 0⟩] false)
      .ret)
     .skip))
   (.seq
    (.seq
     (.region [⟨(some 3), .mov (.c (.d (.sc (.int .i64 0)))), none, 0, 0⟩] false)
     (.block 0
      (.loop
       (.seq
        (.seq
         (.region [⟨(some 8), .mov (.t 3), none, 0, 0⟩,
           ⟨(some 9), .mov (.t 0), none, 0, 0⟩,
           ⟨(some 10), .len (.t 9), none, 0, 0⟩,
           ⟨(some 11), .bin .lss (.t 8) (.t 10), none, 0, 0⟩] false)
         (.cond (.t 11)
          .skip
          (.exit 0)))
        (.seq
         (.block 1
          (.seq
           (.region [⟨(some 14), .mov (.t 0), none, 0, 0⟩,
             ⟨(some 15), .mov (.t 3), none, 0, 0⟩,
             ⟨(some 16), .indexAddr 11 (.t 14) (.t 15), none, 0, 0⟩,
             ⟨(some 17), .load 11 true (.t 16), none, 0, 0⟩,
             ⟨(some 18), .callF 27 [(.t 17)], none, 0, 0⟩,
             ⟨(some 4), .mov (.t 18), none, 0, 0⟩] false)
           (.seq
            (.region [⟨(some 19), .mov (.t 4), none, 0, 0⟩,
              ⟨(some 20), .bin .neq (.t 19) (.c (.d (.sc (.int .i64 0)))), none, 0, 0⟩] false)
            (.cond (.t 20)
             (.seq
              (.region [⟨(some 21), .mov (.t 4), none, 0, 0⟩,
                ⟨(some 2), .mov (.t 21), none, 0, 0⟩] false)
              .ret)
             .skip))))
         (.region [⟨(some 12), .mov (.t 3), none, 0, 0⟩,
           ⟨(some 13), .bin .add (.t 12) (.c (.d (.sc (.int .i64 1)))), none, 0, 0⟩,
           ⟨(some 3), .mov (.t 13), none, 0, 0⟩] false))))))
    (.seq
     (.region [⟨(some 2), .mov (.c (.d (.sc (.int .i64 0)))), none, 0, 0⟩] false)
     .ret)))), false⟩
/-- wreckage/wreckageref43.made -/
def t54 : AFn := ⟨2, 128, [.cell 4 4 true, .t 5],
 (.seq
  (.region [⟨(some 2), .box (.t 0), none, 0, 0⟩,
    ⟨(some 3), .box (.t 1), none, 0, 0⟩,
    ⟨(some 4), .alloc [(.d (.sc (.int .u8 0))), (.d (.sc (.int .i64 0))), (.d (.sc (.int .i64 0))), (.own [] .full)], none, 0, 0⟩,
    ⟨(some 5), .mov (.c (.d (.sc (.bool false)))), none, 0, 0⟩] false)
  (.seq
   (.region [⟨(some 8), .load 4 true (.t 2), none, 0, 0⟩,
     ⟨(some 6), .alloc [(.d (.sc (.int .u8 0))), (.d (.sc (.int .i64 0))), (.d (.sc (.int .i64 0))), (.own [] .full)], none, 0, 0⟩,
     ⟨none, .store 4 (.t 6) (.t 8), none, 0, 0⟩] false)
   (.seq
    (.region [⟨(some 9), .buildSlice 5 0 [(.sc (.int .u8 0)), (.sc (.int .i64 0)), (.sl []), (.sl []), (.sl [])] [], none, 0, 1⟩,
      ⟨(some 10), .fieldAddr 3 (.t 2), none, 0, 0⟩,
      ⟨(some 11), .load 1 false (.t 10), none, 0, 0⟩,
      ⟨(some 12), .append 5 88 (.t 9) (.t 11), none, 0, 1⟩,
      ⟨(some 13), .fieldAddr 3 (.t 6), none, 0, 0⟩,
      ⟨none, .store 1 (.t 13) (.t 12), none, 0, 0⟩] false)
    (.seq
     (.seq
      (.region [⟨(some 14), .fieldAddr 0 (.t 3), none, 0, 0⟩,
        ⟨(some 15), .load 1 false (.t 14), none, 0, 0⟩] false)
      (.block 0
       (.seq
        (.region [⟨(some 17), .bin .eql (.t 15) (.c (.d (.sc (.int .u8 1)))), none, 0, 0⟩,
          ⟨(some 16), .mov (.t 17), none, 0, 0⟩] false)
        (.cond (.t 16)
         (.seq
          (.region [⟨(some 18), .fieldAddr 3 (.t 3), none, 0, 0⟩,
            ⟨(some 19), .load 1 false (.t 18), none, 1, 0⟩,
            ⟨(some 20), .fieldAddr 4 (.t 3), none, 0, 0⟩,
            ⟨(some 21), .load 1 false (.t 20), none, 4, 0⟩,
            ⟨(some 22), .fieldAddr 5 (.t 3), none, 0, 0⟩,
            ⟨(some 23), .load 1 false (.t 22), none, 16, 0⟩,
            ⟨(some 24), .fieldAddr 0 (.t 6), none, 3, 0⟩,
            ⟨none, .store 1 (.t 24) (.t 19), none, 67, 0⟩,
            ⟨(some 25), .fieldAddr 1 (.t 6), none, 207, 0⟩,
            ⟨none, .store 1 (.t 25) (.t 21), none, 463, 0⟩,
            ⟨(some 26), .fieldAddr 2 (.t 6), none, 1023, 0⟩,
            ⟨none, .store 1 (.t 26) (.t 23), none, 2047, 0⟩] true)
          (.seq
           (.region [⟨(some 27), .load 4 true (.t 6), none, 0, 0⟩,
             ⟨none, .store 4 (.t 4) (.t 27), none, 0, 0⟩,
             ⟨(some 5), .mov (.c (.d (.sc (.bool true)))), none, 0, 0⟩] false)
           .ret))
         (.seq
          (.region [⟨(some 29), .bin .eql (.t 15) (.c (.d (.sc (.int .u8 7)))), none, 0, 0⟩,
            ⟨(some 28), .mov (.t 29), none, 0, 0⟩] false)
          (.cond (.t 28)
           (.seq
            (.region [⟨(some 30), .fieldAddr 3 (.t 6), none, 0, 0⟩,
              ⟨(some 31), .load 1 false (.t 30), none, 0, 0⟩,
              ⟨(some 32), .fieldAddr 6 (.t 3), none, 0, 0⟩,
              ⟨(some 33), .load 5 true (.t 32), none, 0, 0⟩,
              ⟨(some 34), .buildSlice 5 1 [(.sc (.int .u8 0)), (.sc (.int .i64 0)), (.sl []), (.sl []), (.sl [])] [(0, (.t 33))], none, 0, 0⟩,
              ⟨(some 35), .append 5 88 (.t 31) (.t 34), none, 0, 1⟩,
              ⟨(some 36), .fieldAddr 3 (.t 6), none, 0, 0⟩,
              ⟨none, .store 1 (.t 36) (.t 35), none, 0, 0⟩] false)
            (.seq
             (.region [⟨(some 37), .load 4 true (.t 6), none, 0, 0⟩,
               ⟨(some 38), .load 4 true (.t 6), none, 0, 0⟩,
               ⟨(some 39), .callF 34 [(.t 38)], none, 2, 0⟩,
               ⟨none, .store 4 (.t 4) (.t 37), none, 7, 0⟩,
               ⟨(some 5), .mov (.t 39), none, 15, 0⟩] true)
             .ret))
           .skip))))))
     (.seq
      (.seq
       (.region [⟨(some 40), .fieldAddr 1 (.t 3), none, 0, 0⟩,
         ⟨(some 41), .load 1 false (.t 40), none, 0, 0⟩,
         ⟨(some 42), .fieldAddr 3 (.t 2), none, 0, 0⟩,
         ⟨(some 43), .load 1 false (.t 42), none, 0, 0⟩,
         ⟨(some 44), .len (.t 43), none, 0, 0⟩,
         ⟨(some 45), .bin .geq (.t 41) (.t 44), none, 0, 0⟩] false)
       (.cond (.t 45)
        (.seq
         (.region [⟨(some 46), .build [(.d (.sc (.int .u8 0))), (.d (.sc (.int .i64 0))), (.d (.sc (.int .i64 0))), (.own [] .full)] [], none, 0, 0⟩,
           ⟨none, .store 4 (.t 4) (.t 46), none, 0, 0⟩,
           ⟨(some 5), .mov (.c (.d (.sc (.bool false)))), none, 0, 0⟩] false)
         .ret)
        .skip))
      (.seq
       (.region [⟨(some 47), .fieldAddr 3 (.t 6), none, 0, 0⟩,
         ⟨(some 48), .load 1 false (.t 47), none, 0, 0⟩,
         ⟨(some 49), .fieldAddr 1 (.t 3), none, 0, 0⟩,
         ⟨(some 50), .load 1 false (.t 49), none, 0, 0⟩,
         ⟨(some 51), .indexAddr 5 (.t 48) (.t 50), none, 0, 0⟩,
         ⟨(some 7), .mov (.t 51), none, 0, 0⟩] false)
       (.seq
        (.seq
         (.region [⟨(some 52), .fieldAddr 0 (.t 3), none, 0, 0⟩,
           ⟨(some 53), .load 1 false (.t 52), none, 0, 0⟩] false)
         (.block 1
          (.seq
           (.region [⟨(some 55), .bin .eql (.t 53) (.c (.d (.sc (.int .u8 2)))), none, 0, 0⟩,
             ⟨(some 54), .mov (.t 55), none, 0, 0⟩] false)
           (.cond (.t 54)
            (.region [⟨(some 56), .mov (.t 7), none, 0, 0⟩,
              ⟨(some 57), .mov (.t 7), none, 0, 0⟩,
              ⟨(some 58), .fieldAddr 6 (.t 3), none, 0, 0⟩,
              ⟨(some 59), .fieldAddr 0 (.t 58), none, 4, 0⟩,
              ⟨(some 60), .load 1 false (.t 59), none, 12, 0⟩,
              ⟨(some 61), .fieldAddr 6 (.t 3), none, 0, 0⟩,
              ⟨(some 62), .fieldAddr 1 (.t 61), none, 32, 0⟩,
              ⟨(some 63), .load 1 false (.t 62), none, 96, 0⟩,
              ⟨(some 64), .nilCheck (.t 56), none, 29, 0⟩,
              ⟨(some 65), .fieldAddr 0 (.t 64), none, 285, 0⟩,
              ⟨none, .store 1 (.t 65) (.t 60), none, 797, 0⟩,
              ⟨(some 66), .nilCheck (.t 57), none, 2047, 0⟩,
              ⟨(some 67), .fieldAddr 1 (.t 66), none, 4095, 0⟩,
              ⟨none, .store 1 (.t 67) (.t 63), none, 8191, 0⟩] true)
            (.seq
             (.region [⟨(some 69), .bin .eql (.t 53) (.c (.d (.sc (.int .u8 3)))), none, 0, 0⟩,
               ⟨(some 68), .mov (.t 69), none, 0, 0⟩] false)
             (.cond (.t 68)
              (.seq
               (.seq
                (.region [⟨(some 70), .fieldAddr 2 (.t 3), none, 0, 0⟩,
                  ⟨(some 71), .load 1 false (.t 70), none, 1, 0⟩,
                  ⟨(some 72), .mov (.t 7), none, 0, 0⟩,
                  ⟨(some 73), .nilCheck (.t 72), none, 4, 0⟩,
                  ⟨(some 74), .fieldAddr 2 (.t 73), none, 12, 0⟩,
                  ⟨(some 75), .load 1 false (.t 74), none, 28, 0⟩,
                  ⟨(some 76), .len (.t 75), none, 60, 0⟩,
                  ⟨(some 77), .bin .gtr (.t 71) (.t 76), none, 127, 0⟩] true)
                (.cond (.t 77)
                 (.seq
                  (.region [⟨(some 78), .build [(.d (.sc (.int .u8 0))), (.d (.sc (.int .i64 0))), (.d (.sc (.int .i64 0))), (.own [] .full)] [], none, 0, 0⟩,
                    ⟨none, .store 4 (.t 4) (.t 78), none, 0, 0⟩,
                    ⟨(some 5), .mov (.c (.d (.sc (.bool false)))), none, 0, 0⟩] false)
                  .ret)
                 .skip))
               (.region [⟨(some 79), .mov (.t 7), none, 0, 0⟩,
                 ⟨(some 80), .buildSlice 4 0 [(.sc (.int .i64 0)), (.sc (.int .i64 0)), (.sc (.int .u64 0)), (.sl [])] [], none, 0, 0⟩,
                 ⟨(some 81), .fieldAddr 6 (.t 3), none, 0, 0⟩,
                 ⟨(some 82), .fieldAddr 2 (.t 81), none, 4, 0⟩,
                 ⟨(some 83), .load 1 false (.t 82), none, 12, 0⟩,
                 ⟨(some 84), .append 4 48 (.t 80) (.t 83), none, 30, 0⟩,
                 ⟨(some 85), .mov (.t 7), none, 0, 0⟩,
                 ⟨(some 86), .nilCheck (.t 85), none, 64, 0⟩,
                 ⟨(some 87), .fieldAddr 2 (.t 86), none, 192, 0⟩,
                 ⟨(some 88), .load 1 false (.t 87), none, 448, 0⟩,
                 ⟨(some 89), .mov (.t 7), none, 0, 0⟩,
                 ⟨(some 90), .nilCheck (.t 89), none, 1024, 0⟩,
                 ⟨(some 91), .fieldAddr 2 (.t 90), none, 3072, 0⟩,
                 ⟨(some 92), .load 1 false (.t 91), none, 7168, 0⟩,
                 ⟨(some 93), .len (.t 92), none, 15360, 0⟩,
                 ⟨(some 94), .fieldAddr 2 (.t 3), none, 0, 0⟩,
                 ⟨(some 95), .load 1 false (.t 94), none, 32768, 0⟩,
                 ⟨(some 96), .bin .sub (.t 93) (.t 95), none, 130048, 0⟩,
                 ⟨(some 97), .slice 4 (.t 88) (some (.t 96)) none none, none, 262080, 0⟩,
                 ⟨(some 98), .append 4 48 (.t 84) (.t 97), none, 524286, 0⟩,
                 ⟨(some 99), .nilCheck (.t 79), none, 1048575, 0⟩,
                 ⟨(some 100), .fieldAddr 2 (.t 99), none, 2097151, 0⟩,
                 ⟨none, .store 1 (.t 100) (.t 98), none, 4194303, 0⟩] true))
              (.seq
               (.region [⟨(some 102), .bin .eql (.t 53) (.c (.d (.sc (.int .u8 4)))), none, 0, 0⟩,
                 ⟨(some 101), .mov (.t 102), none, 0, 0⟩] false)
               (.cond (.t 101)
                (.region [⟨(some 103), .mov (.t 7), none, 0, 0⟩,
                  ⟨(some 104), .fieldAddr 6 (.t 3), none, 0, 0⟩,
                  ⟨(some 105), .fieldAddr 3 (.t 104), none, 0, 0⟩,
                  ⟨(some 106), .load 1 false (.t 105), none, 0, 0⟩,
                  ⟨(some 107), .nilCheck (.t 103), none, 0, 0⟩,
                  ⟨(some 108), .fieldAddr 3 (.t 107), none, 0, 0⟩,
                  ⟨none, .store 1 (.t 108) (.t 106), none, 0, 0⟩] false)
                (.seq
                 (.region [⟨(some 110), .bin .eql (.t 53) (.c (.d (.sc (.int .u8 5)))), none, 0, 0⟩,
                   ⟨(some 109), .mov (.t 110), none, 0, 0⟩] false)
                 (.cond (.t 109)
                  (.region [⟨(some 111), .mov (.t 7), none, 0, 0⟩,
                    ⟨(some 112), .fieldAddr 6 (.t 3), none, 0, 0⟩,
                    ⟨(some 113), .fieldAddr 4 (.t 112), none, 0, 0⟩,
                    ⟨(some 114), .load 1 false (.t 113), none, 0, 0⟩,
                    ⟨(some 115), .nilCheck (.t 111), none, 0, 0⟩,
                    ⟨(some 116), .fieldAddr 4 (.t 115), none, 0, 0⟩,
                    ⟨none, .store 1 (.t 116) (.t 114), none, 0, 0⟩] false)
                  (.seq
                   (.region [⟨(some 118), .bin .eql (.t 53) (.c (.d (.sc (.int .u8 6)))), none, 0, 0⟩,
                     ⟨(some 117), .mov (.t 118), none, 0, 0⟩] false)
                   (.cond (.t 117)
                    (.region [⟨(some 119), .fieldAddr 3 (.t 6), none, 0, 0⟩,
                      ⟨(some 120), .load 1 false (.t 119), none, 0, 0⟩,
                      ⟨(some 121), .fieldAddr 1 (.t 3), none, 0, 0⟩,
                      ⟨(some 122), .load 1 false (.t 121), none, 0, 0⟩,
                      ⟨(some 123), .slice 5 (.t 120) none (some (.t 122)) none, none, 0, 3⟩,
                      ⟨(some 124), .fieldAddr 3 (.t 6), none, 0, 0⟩,
                      ⟨none, .store 1 (.t 124) (.t 123), none, 0, 0⟩] false)
                    .skip))))))))))))
        (.seq
         (.region [⟨(some 125), .load 4 true (.t 6), none, 0, 0⟩,
           ⟨(some 126), .load 4 true (.t 6), none, 0, 0⟩,
           ⟨(some 127), .callF 34 [(.t 126)], none, 2, 0⟩,
           ⟨none, .store 4 (.t 4) (.t 125), none, 7, 0⟩,
           ⟨(some 5), .mov (.t 127), none, 15, 0⟩] true)
         .ret)))))))), false⟩
/-- wreckage/wreckageref43.Apply -/
def t25 : AFn := ⟨2, 40, [.cell 4 4 true, .t 5],
 (.seq
  (.region [⟨(some 2), .box (.t 0), none, 0, 0⟩,
    ⟨(some 4), .alloc [(.d (.sc (.int .u8 0))), (.d (.sc (.int .i64 0))), (.d (.sc (.int .i64 0))), (.own [] .full)], none, 0, 0⟩,
    ⟨(some 5), .mov (.c (.d (.sc (.int .i64 0)))), none, 0, 0⟩] false)
  (.seq
   (.seq
    (.region [⟨(some 10), .load 4 true (.t 2), none, 0, 0⟩,
      ⟨(some 11), .callF 34 [(.t 10)], none, 0, 0⟩,
      ⟨(some 12), .un .not (.t 11), none, 0, 0⟩] false)
    (.cond (.t 12)
     (.seq
      (.region [⟨(some 13), .build [(.d (.sc (.int .u8 0))), (.d (.sc (.int .i64 0))), (.d (.sc (.int .i64 0))), (.own [] .full)] [], none, 0, 0⟩,
        ⟨none, .store 4 (.t 4) (.t 13), none, 0, 0⟩,
        ⟨(some 5), .mov (.c (.d (.sc (.int .i64 4)))), none, 0, 0⟩] false)
      .ret)
     .skip))
   (.seq
    (.seq
     (.region [⟨(some 14), .mov (.t 1), none, 0, 0⟩,
       ⟨(some 15), .callF 53 [(.t 14)], none, 0, 0⟩,
       ⟨(some 6), .mov (.t 15), none, 0, 0⟩] false)
     (.seq
      (.region [⟨(some 16), .mov (.t 6), none, 0, 0⟩,
        ⟨(some 17), .bin .neq (.t 16) (.c (.d (.sc (.int .i64 0)))), none, 0, 0⟩] false)
      (.cond (.t 17)
       (.seq
        (.region [⟨(some 18), .build [(.d (.sc (.int .u8 0))), (.d (.sc (.int .i64 0))), (.d (.sc (.int .i64 0))), (.own [] .full)] [], none, 0, 0⟩,
          ⟨(some 19), .mov (.t 6), none, 0, 0⟩,
          ⟨none, .store 4 (.t 4) (.t 18), none, 0, 0⟩,
          ⟨(some 5), .mov (.t 19), none, 0, 0⟩] false)
        .ret)
       .skip)))
    (.seq
     (.seq
      (.region [⟨(some 7), .mov (.c (.d (.sc (.int .i64 0)))), none, 0, 0⟩] false)
      (.block 0
       (.loop
        (.seq
         (.seq
          (.region [⟨(some 20), .mov (.t 7), none, 0, 0⟩,
            ⟨(some 21), .mov (.t 1), none, 0, 0⟩,
            ⟨(some 22), .len (.t 21), none, 0, 0⟩,
            ⟨(some 23), .bin .lss (.t 20) (.t 22), none, 0, 0⟩] false)
          (.cond (.t 23)
           .skip
           (.exit 0)))
         (.seq
          (.block 1
           (.seq
            (.region [⟨(some 27), .load 4 true (.t 2), none, 0, 0⟩,
              ⟨(some 28), .mov (.t 1), none, 0, 0⟩,
              ⟨(some 29), .mov (.t 7), none, 0, 0⟩,
              ⟨(some 30), .indexAddr 11 (.t 28) (.t 29), none, 6, 0⟩,
              ⟨(some 31), .load 11 true (.t 30), none, 14, 0⟩,
              ⟨(some 32), .call 54 [(.t 27), (.t 31)], none, 31, 0⟩,
              ⟨(some 26), .mov (.t 32), none, 63, 0⟩,
              ⟨(some 33), .extract (.t 26) 0, none, 127, 0⟩,
              ⟨(some 34), .extract (.t 26) 1, none, 127, 0⟩,
              ⟨(some 8), .alloc [(.d (.sc (.int .u8 0))), (.d (.sc (.int .i64 0))), (.d (.sc (.int .i64 0))), (.own [] .full)], none, 0, 0⟩,
              ⟨none, .store 4 (.t 8) (.t 33), none, 767, 0⟩,
              ⟨(some 9), .mov (.t 34), none, 2047, 0⟩] true)
            (.seq
             (.seq
              (.region [⟨(some 35), .mov (.t 9), none, 0, 0⟩,
                ⟨(some 36), .un .not (.t 35), none, 0, 0⟩] false)
              (.cond (.t 36)
               (.seq
                (.region [⟨(some 37), .build [(.d (.sc (.int .u8 0))), (.d (.sc (.int .i64 0))), (.d (.sc (.int .i64 0))), (.own [] .full)] [], none, 0, 0⟩,
                  ⟨none, .store 4 (.t 4) (.t 37), none, 0, 0⟩,
                  ⟨(some 5), .mov (.c (.d (.sc (.int .i64 2)))), none, 0, 0⟩] false)
                .ret)
               .skip))
             (.region [⟨(some 38), .load 4 true (.t 8), none, 0, 0⟩,
               ⟨none, .store 4 (.t 2) (.t 38), none, 0, 0⟩] false))))
          (.region [⟨(some 24), .mov (.t 7), none, 0, 0⟩,
            ⟨(some 25), .bin .add (.t 24) (.c (.d (.sc (.int .i64 1)))), none, 0, 0⟩,
            ⟨(some 7), .mov (.t 25), none, 0, 0⟩] false))))))
     (.seq
      (.region [⟨(some 39), .load 4 true (.t 2), none, 0, 0⟩,
        ⟨none, .store 4 (.t 4) (.t 39), none, 0, 0⟩,
        ⟨(some 5), .mov (.c (.d (.sc (.int .i64 0)))), none, 0, 0⟩] false)
      .ret))))), false⟩
/-- wreckage/differ.Touched -/
def t22 : AFn := ⟨1, 37, [.t 2, .t 3],
 (.seq
  (.region [⟨(some 2), .mov (.c (.own [] .full)), none, 0, 0⟩,
    ⟨(some 3), .mov (.c (.d (.sc (.int .i64 0)))), none, 0, 0⟩] false)
  (.seq
   (.seq
    (.region [⟨(some 8), .mov (.t 0), none, 0, 0⟩,
      ⟨(some 9), .callF 41 [(.t 8)], none, 0, 0⟩,
      ⟨(some 4), .mov (.t 9), none, 0, 0⟩] false)
    (.seq
     (.region [⟨(some 10), .mov (.t 4), none, 0, 0⟩,
       ⟨(some 11), .bin .neq (.t 10) (.c (.d (.sc (.int .i64 0)))), none, 0, 0⟩] false)
     (.cond (.t 11)
      (.seq
       (.region [⟨(some 12), .mov (.t 4), none, 0, 0⟩,
         ⟨(some 2), .mov (.c (.own [] .full)), none, 0, 0⟩,
         ⟨(some 3), .mov (.t 12), none, 0, 0⟩] false)
       .ret)
      .skip)))
   (.seq
    (.region [⟨(some 5), .mov (.c (.own [] .full)), none, 0, 65540⟩] false)
    (.seq
     (.seq
      (.region [⟨(some 13), .mov (.t 0), none, 0, 0⟩,
        ⟨(some 14), .len (.t 13), none, 0, 0⟩,
        ⟨(some 15), .mov (.c (.d (.sc (.int .i64 0)))), none, 0, 0⟩] false)
      (.block 0
       (.loop
        (.seq
         (.region [⟨(some 16), .bin .lss (.t 15) (.t 14), none, 0, 0⟩] false)
         (.seq
          (.cond (.t 16)
           .skip
           (.exit 0))
          (.seq
           (.block 1
            (.seq
             (.region [⟨(some 17), .indexAddr 11 (.t 13) (.t 15), none, 0, 0⟩,
               ⟨(some 18), .load 11 true (.t 17), none, 0, 0⟩,
               ⟨(some 7), .alloc [(.d (.sc (.int .u8 0))), (.d (.sc (.int .i64 0))), (.d (.sc (.int .i64 0))), (.d (.sc (.int .u8 0))), (.d (.sc (.int .i64 0))), (.d (.sc (.int .i64 0))), (.d (.sc (.int .u8 0))), (.d (.sc (.int .i64 0))), (.own [] .full), (.own [] .full), (.own [] .full)], none, 0, 0⟩,
               ⟨none, .store 11 (.t 7) (.t 18), none, 0, 0⟩] false)
             (.seq
              (.region [⟨(some 19), .fieldAddr 0 (.t 7), none, 0, 0⟩,
                ⟨(some 20), .load 1 false (.t 19), none, 0, 0⟩,
                ⟨(some 21), .bin .geq (.t 20) (.c (.d (.sc (.int .u8 2)))), none, 0, 0⟩,
                ⟨(some 22), .mov (.t 21), none, 0, 0⟩,
                ⟨(some 23), .fieldAddr 0 (.t 7), (some (22, true)), 0, 0⟩,
                ⟨(some 24), .load 1 false (.t 23), (some (22, true)), 0, 0⟩,
                ⟨(some 25), .bin .leq (.t 24) (.c (.d (.sc (.int .u8 5)))), (some (22, true)), 0, 0⟩,
                ⟨(some 26), .pick (.t 22) (.t 25) (.c (.d (.sc (.bool false)))), none, 0, 0⟩] false)
              (.cond (.t 26)
               (.region [⟨(some 27), .mov (.t 5), none, 0, 0⟩,
                 ⟨(some 28), .fieldAddr 1 (.t 7), none, 0, 0⟩,
                 ⟨(some 29), .load 1 false (.t 28), none, 0, 0⟩,
                 ⟨(some 30), .buildSlice 1 1 [(.sc (.int .i64 0))] [(0, (.t 29))], none, 0, 0⟩,
                 ⟨(some 31), .append 1 8 (.t 27) (.t 30), none, 0, 1⟩,
                 ⟨(some 5), .mov (.t 31), none, 0, 65540⟩] false)
               .skip))))
           (.region [⟨(some 32), .bin .add (.t 15) (.c (.d (.sc (.int .i64 1)))), none, 0, 0⟩,
             ⟨(some 15), .mov (.t 32), none, 0, 0⟩] false)))))))
     (.seq
      (.region [⟨(some 33), .mov (.t 5), none, 0, 0⟩,
        ⟨(some 34), .sort (.t 33), none, 0, 0⟩] false)
      (.seq
       (.region [⟨(some 35), .mov (.t 5), none, 0, 0⟩,
         ⟨(some 36), .compact (.t 35), none, 0, 0⟩,
         ⟨(some 2), .mov (.t 36), none, 0, 0⟩,
         ⟨(some 3), .mov (.c (.d (.sc (.int .i64 0)))), none, 0, 0⟩] false)
       .ret)))))), false⟩
/-- wreckage/wreckageref43.Touched -/
def t26 : AFn := ⟨1, 56, [.t 2, .t 3],
 (.seq
  (.region [⟨(some 2), .mov (.c (.own [] .full)), none, 0, 0⟩,
    ⟨(some 3), .mov (.c (.d (.sc (.int .i64 0)))), none, 0, 0⟩] false)
  (.seq
   (.seq
    (.region [⟨(some 9), .mov (.t 0), none, 0, 0⟩,
      ⟨(some 10), .callF 53 [(.t 9)], none, 0, 0⟩,
      ⟨(some 4), .mov (.t 10), none, 0, 0⟩] false)
    (.seq
     (.region [⟨(some 11), .mov (.t 4), none, 0, 0⟩,
       ⟨(some 12), .bin .neq (.t 11) (.c (.d (.sc (.int .i64 0)))), none, 0, 0⟩] false)
     (.cond (.t 12)
      (.seq
       (.region [⟨(some 13), .mov (.t 4), none, 0, 0⟩,
         ⟨(some 2), .mov (.c (.own [] .full)), none, 0, 0⟩,
         ⟨(some 3), .mov (.t 13), none, 0, 0⟩] false)
       .ret)
      .skip)))
   (.seq
    (.region [⟨(some 5), .mov (.c (.own [] .full)), none, 0, 0⟩] false)
    (.seq
     (.seq
      (.region [⟨(some 6), .mov (.c (.d (.sc (.int .i64 0)))), none, 0, 0⟩] false)
      (.block 0
       (.loop
        (.seq
         (.seq
          (.region [⟨(some 14), .mov (.t 6), none, 0, 0⟩,
            ⟨(some 15), .bin .lss (.t 14) (.c (.d (.sc (.int .i64 16)))), none, 0, 0⟩] false)
          (.cond (.t 15)
           .skip
           (.exit 0)))
         (.seq
          (.block 1
           (.seq
            (.region [⟨(some 7), .mov (.c (.d (.sc (.bool false)))), none, 0, 0⟩] false)
            (.seq
             (.seq
              (.region [⟨(some 8), .mov (.c (.d (.sc (.int .i64 0)))), none, 0, 0⟩] false)
              (.block 2
               (.loop
                (.seq
                 (.seq
                  (.region [⟨(some 18), .mov (.t 8), none, 0, 0⟩,
                    ⟨(some 19), .mov (.t 0), none, 0, 0⟩,
                    ⟨(some 20), .len (.t 19), none, 0, 0⟩,
                    ⟨(some 21), .bin .lss (.t 18) (.t 20), none, 0, 0⟩] false)
                  (.cond (.t 21)
                   .skip
                   (.exit 2)))
                 (.seq
                  (.block 3
                   (.region [⟨(some 24), .mov (.t 7), none, 0, 0⟩,
                     ⟨(some 25), .mov (.t 24), none, 0, 0⟩,
                     ⟨(some 26), .mov (.t 0), (some (25, false)), 0, 0⟩,
                     ⟨(some 27), .mov (.t 8), (some (25, false)), 0, 0⟩,
                     ⟨(some 28), .indexAddr 11 (.t 26) (.t 27), (some (25, false)), 0, 0⟩,
                     ⟨(some 29), .fieldAddr 1 (.t 28), (some (25, false)), 0, 0⟩,
                     ⟨(some 30), .load 1 false (.t 29), (some (25, false)), 0, 0⟩,
                     ⟨(some 31), .mov (.t 6), (some (25, false)), 0, 0⟩,
                     ⟨(some 32), .bin .eql (.t 30) (.t 31), (some (25, false)), 0, 0⟩,
                     ⟨(some 33), .mov (.t 32), (some (25, false)), 0, 0⟩,
                     ⟨(some 34), .mov (.t 0), (some (33, true)), 0, 0⟩,
                     ⟨(some 35), .mov (.t 8), (some (33, true)), 0, 0⟩,
                     ⟨(some 36), .indexAddr 11 (.t 34) (.t 35), (some (33, true)), 0, 0⟩,
                     ⟨(some 37), .fieldAddr 0 (.t 36), (some (33, true)), 0, 0⟩,
                     ⟨(some 38), .load 1 false (.t 37), (some (33, true)), 0, 0⟩,
                     ⟨(some 39), .bin .geq (.t 38) (.c (.d (.sc (.int .u8 2)))), (some (33, true)), 0, 0⟩,
                     ⟨(some 40), .pick (.t 33) (.t 39) (.c (.d (.sc (.bool false)))), (some (25, false)), 0, 0⟩,
                     ⟨(some 41), .mov (.t 40), (some (25, false)), 0, 0⟩,
                     ⟨(some 42), .mov (.t 0), (some (41, true)), 0, 0⟩,
                     ⟨(some 43), .mov (.t 8), (some (41, true)), 0, 0⟩,
                     ⟨(some 44), .indexAddr 11 (.t 42) (.t 43), (some (41, true)), 0, 0⟩,
                     ⟨(some 45), .fieldAddr 0 (.t 44), (some (41, true)), 0, 0⟩,
                     ⟨(some 46), .load 1 false (.t 45), (some (41, true)), 0, 0⟩,
                     ⟨(some 47), .bin .leq (.t 46) (.c (.d (.sc (.int .u8 5)))), (some (41, true)), 0, 0⟩,
                     ⟨(some 48), .pick (.t 41) (.t 47) (.c (.d (.sc (.bool false)))), (some (25, false)), 0, 0⟩,
                     ⟨(some 49), .pick (.t 25) (.c (.d (.sc (.bool true)))) (.t 48), none, 0, 0⟩,
                     ⟨(some 7), .mov (.t 49), none, 0, 0⟩] false))
                  (.region [⟨(some 22), .mov (.t 8), none, 0, 0⟩,
                    ⟨(some 23), .bin .add (.t 22) (.c (.d (.sc (.int .i64 1)))), none, 0, 0⟩,
                    ⟨(some 8), .mov (.t 23), none, 0, 0⟩] false))))))
             (.seq
              (.region [⟨(some 50), .mov (.t 7), none, 0, 0⟩] false)
              (.cond (.t 50)
               (.region [⟨(some 51), .mov (.t 5), none, 0, 0⟩,
                 ⟨(some 52), .mov (.t 6), none, 0, 0⟩,
                 ⟨(some 53), .buildSlice 1 1 [(.sc (.int .i64 0))] [(0, (.t 52))], none, 0, 0⟩,
                 ⟨(some 54), .append 1 8 (.t 51) (.t 53), none, 0, 0⟩,
                 ⟨(some 5), .mov (.t 54), none, 0, 0⟩] false)
               .skip)))))
          (.region [⟨(some 16), .mov (.t 6), none, 0, 0⟩,
            ⟨(some 17), .bin .add (.t 16) (.c (.d (.sc (.int .i64 1)))), none, 0, 0⟩,
            ⟨(some 6), .mov (.t 17), none, 0, 0⟩] false))))))
     (.seq
      (.region [⟨(some 55), .mov (.t 5), none, 0, 0⟩,
        ⟨(some 2), .mov (.t 55), none, 0, 0⟩,
        ⟨(some 3), .mov (.c (.d (.sc (.int .i64 0)))), none, 0, 0⟩] false)
      .ret))))), false⟩
/-- wreckage/wreckageref40.Same -/
def t19 : AFn := ⟨2, 53, [.t 4],
 (.seq
  (.region [⟨(some 2), .box (.t 0), none, 0, 0⟩,
    ⟨(some 3), .box (.t 1), none, 0, 0⟩,
    ⟨(some 4), .mov (.c (.d (.sc (.bool false)))), none, 0, 0⟩] false)
  (.seq
   (.seq
    (.region [⟨(some 6), .fieldAddr 0 (.t 2), none, 0, 0⟩,
      ⟨(some 7), .load 1 false (.t 6), none, 0, 0⟩,
      ⟨(some 8), .fieldAddr 0 (.t 3), none, 0, 0⟩,
      ⟨(some 9), .load 1 false (.t 8), none, 0, 0⟩,
      ⟨(some 10), .bin .neq (.t 7) (.t 9), none, 0, 0⟩,
      ⟨(some 11), .mov (.t 10), none, 0, 0⟩,
      ⟨(some 12), .fieldAddr 1 (.t 2), (some (11, false)), 0, 0⟩,
      ⟨(some 13), .load 1 false (.t 12), (some (11, false)), 0, 0⟩,
      ⟨(some 14), .fieldAddr 1 (.t 3), (some (11, false)), 0, 0⟩,
      ⟨(some 15), .load 1 false (.t 14), (some (11, false)), 0, 0⟩,
      ⟨(some 16), .bin .neq (.t 13) (.t 15), (some (11, false)), 0, 0⟩,
      ⟨(some 17), .pick (.t 11) (.c (.d (.sc (.bool true)))) (.t 16), none, 0, 0⟩,
      ⟨(some 18), .mov (.t 17), none, 0, 0⟩,
      ⟨(some 19), .fieldAddr 2 (.t 2), (some (18, false)), 0, 0⟩,
      ⟨(some 20), .load 1 false (.t 19), (some (18, false)), 0, 0⟩,
      ⟨(some 21), .fieldAddr 2 (.t 3), (some (18, false)), 0, 0⟩,
      ⟨(some 22), .load 1 false (.t 21), (some (18, false)), 0, 0⟩,
      ⟨(some 23), .bin .neq (.t 20) (.t 22), (some (18, false)), 0, 0⟩,
      ⟨(some 24), .pick (.t 18) (.c (.d (.sc (.bool true)))) (.t 23), none, 0, 0⟩,
      ⟨(some 25), .mov (.t 24), none, 0, 0⟩,
      ⟨(some 26), .fieldAddr 3 (.t 2), (some (25, false)), 0, 0⟩,
      ⟨(some 27), .load 1 false (.t 26), (some (25, false)), 0, 0⟩,
      ⟨(some 28), .len (.t 27), (some (25, false)), 0, 0⟩,
      ⟨(some 29), .fieldAddr 3 (.t 3), (some (25, false)), 0, 0⟩,
      ⟨(some 30), .load 1 false (.t 29), (some (25, false)), 0, 0⟩,
      ⟨(some 31), .len (.t 30), (some (25, false)), 0, 0⟩,
      ⟨(some 32), .bin .neq (.t 28) (.t 31), (some (25, false)), 0, 0⟩,
      ⟨(some 33), .pick (.t 25) (.c (.d (.sc (.bool true)))) (.t 32), none, 0, 0⟩] false)
    (.cond (.t 33)
     (.seq
      (.region [⟨(some 4), .mov (.c (.d (.sc (.bool false)))), none, 0, 0⟩] false)
      .ret)
     .skip))
   (.seq
    (.seq
     (.region [⟨(some 5), .mov (.c (.d (.sc (.int .i64 0)))), none, 0, 0⟩] false)
     (.block 0
      (.loop
       (.seq
        (.seq
         (.region [⟨(some 34), .mov (.t 5), none, 0, 0⟩,
           ⟨(some 35), .fieldAddr 3 (.t 2), none, 0, 0⟩,
           ⟨(some 36), .load 1 false (.t 35), none, 0, 0⟩,
           ⟨(some 37), .len (.t 36), none, 0, 0⟩,
           ⟨(some 38), .bin .lss (.t 34) (.t 37), none, 0, 0⟩] false)
         (.cond (.t 38)
          .skip
          (.exit 0)))
        (.seq
         (.block 1
          (.seq
           (.region [⟨(some 41), .fieldAddr 3 (.t 2), none, 0, 0⟩,
             ⟨(some 42), .load 1 false (.t 41), none, 1, 0⟩,
             ⟨(some 43), .mov (.t 5), none, 0, 0⟩,
             ⟨(some 44), .indexAddr 5 (.t 42) (.t 43), none, 7, 0⟩,
             ⟨(some 45), .load 5 true (.t 44), none, 15, 0⟩,
             ⟨(some 46), .fieldAddr 3 (.t 3), none, 0, 0⟩,
             ⟨(some 47), .load 1 false (.t 46), none, 32, 0⟩,
             ⟨(some 48), .mov (.t 5), none, 0, 0⟩,
             ⟨(some 49), .indexAddr 5 (.t 47) (.t 48), none, 224, 0⟩,
             ⟨(some 50), .load 5 true (.t 49), none, 480, 0⟩,
             ⟨(some 51), .callF 23 [(.t 45), (.t 50)], none, 1023, 0⟩,
             ⟨(some 52), .un .not (.t 51), none, 2047, 0⟩] true)
           (.cond (.t 52)
            (.seq
             (.region [⟨(some 4), .mov (.c (.d (.sc (.bool false)))), none, 0, 0⟩] false)
             .ret)
            .skip)))
         (.region [⟨(some 39), .mov (.t 5), none, 0, 0⟩,
           ⟨(some 40), .bin .add (.t 39) (.c (.d (.sc (.int .i64 1)))), none, 0, 0⟩,
           ⟨(some 5), .mov (.t 40), none, 0, 0⟩] false))))))
    (.seq
     (.region [⟨(some 4), .mov (.c (.d (.sc (.bool true)))), none, 0, 0⟩] false)
     .ret)))), false⟩
/-- wreckage/wreckagelaw43.DifferMakes -/
def t7 : AFn := ⟨3, 92, [.t 6],
 (.seq
  (.region [⟨(some 3), .box (.t 0), none, 0, 0⟩,
    ⟨(some 4), .box (.t 1), none, 0, 0⟩,
    ⟨(some 6), .mov (.c (.d (.sc (.bool false)))), none, 0, 0⟩] false)
  (.seq
   (.seq
    (.region [⟨(some 16), .load 4 true (.t 3), none, 0, 0⟩,
      ⟨(some 17), .callF 9 [(.t 16)], none, 0, 0⟩,
      ⟨(some 18), .mov (.t 17), none, 0, 0⟩,
      ⟨(some 19), .fieldAddr 6 (.t 4), (some (18, false)), 0, 0⟩,
      ⟨(some 20), .load 5 true (.t 19), (some (18, false)), 0, 0⟩,
      ⟨(some 21), .callF 24 [(.t 20)], (some (18, false)), 0, 0⟩,
      ⟨(some 22), .pick (.t 18) (.c (.d (.sc (.bool true)))) (.t 21), none, 0, 0⟩,
      ⟨(some 23), .mov (.t 22), none, 0, 0⟩,
      ⟨(some 24), .mov (.t 2), (some (23, false)), 0, 0⟩,
      ⟨(some 25), .callF 17 [(.t 24)], (some (23, false)), 0, 0⟩,
      ⟨(some 26), .pick (.t 23) (.c (.d (.sc (.bool true)))) (.t 25), none, 0, 0⟩] false)
    (.cond (.t 26)
     (.seq
      (.region [⟨(some 6), .mov (.c (.d (.sc (.bool true)))), none, 0, 0⟩] false)
      .ret)
     .skip))
   (.seq
    (.region [⟨(some 28), .load 4 true (.t 3), none, 0, 0⟩,
      ⟨(some 29), .mov (.t 2), none, 0, 0⟩,
      ⟨(some 30), .call 18 [(.t 28), (.t 29)], none, 0, 0⟩,
      ⟨(some 27), .mov (.t 30), none, 0, 0⟩,
      ⟨(some 31), .extract (.t 27) 0, none, 0, 0⟩,
      ⟨(some 32), .extract (.t 27) 1, none, 0, 0⟩,
      ⟨(some 7), .alloc [(.d (.sc (.int .u8 0))), (.d (.sc (.int .i64 0))), (.d (.sc (.int .i64 0))), (.own [] .full)], none, 0, 0⟩,
      ⟨none, .store 4 (.t 7) (.t 31), none, 0, 0⟩,
      ⟨(some 8), .mov (.t 32), none, 0, 0⟩] false)
    (.seq
     (.region [⟨(some 34), .load 4 true (.t 3), none, 0, 0⟩,
       ⟨(some 35), .mov (.t 2), none, 0, 0⟩,
       ⟨(some 36), .call 25 [(.t 34), (.t 35)], none, 0, 0⟩,
       ⟨(some 33), .mov (.t 36), none, 0, 0⟩,
       ⟨(some 37), .extract (.t 33) 0, none, 0, 0⟩,
       ⟨(some 38), .extract (.t 33) 1, none, 0, 0⟩,
       ⟨(some 9), .alloc [(.d (.sc (.int .u8 0))), (.d (.sc (.int .i64 0))), (.d (.sc (.int .i64 0))), (.own [] .full)], none, 0, 0⟩,
       ⟨none, .store 4 (.t 9) (.t 37), none, 0, 0⟩,
       ⟨(some 10), .mov (.t 38), none, 0, 0⟩] false)
     (.seq
      (.region [⟨(some 40), .mov (.t 2), none, 0, 0⟩,
        ⟨(some 41), .call 22 [(.t 40)], none, 0, 0⟩,
        ⟨(some 39), .mov (.t 41), none, 0, 0⟩,
        ⟨(some 42), .extract (.t 39) 0, none, 0, 0⟩,
        ⟨(some 43), .extract (.t 39) 1, none, 0, 0⟩,
        ⟨(some 11), .mov (.t 42), none, 0, 0⟩,
        ⟨(some 12), .mov (.t 43), none, 0, 0⟩] false)
      (.seq
       (.region [⟨(some 45), .mov (.t 2), none, 0, 0⟩,
         ⟨(some 46), .call 26 [(.t 45)], none, 0, 0⟩,
         ⟨(some 44), .mov (.t 46), none, 0, 0⟩,
         ⟨(some 47), .extract (.t 44) 0, none, 0, 0⟩,
         ⟨(some 48), .extract (.t 44) 1, none, 0, 0⟩,
         ⟨(some 13), .mov (.t 47), none, 0, 0⟩,
         ⟨(some 14), .mov (.t 48), none, 0, 0⟩] false)
       (.seq
        (.seq
         (.region [⟨(some 49), .load 11 true (.t 4), none, 0, 0⟩,
           ⟨(some 50), .callF 21 [(.t 49)], none, 1, 0⟩,
           ⟨(some 51), .load 11 true (.t 4), none, 0, 0⟩,
           ⟨(some 52), .callF 27 [(.t 51)], none, 7, 0⟩,
           ⟨(some 53), .bin .neq (.t 50) (.t 52), none, 15, 0⟩,
           ⟨(some 54), .mov (.t 53), none, 31, 0⟩,
           ⟨(some 55), .load 4 true (.t 7), (some (54, false)), 63, 0⟩,
           ⟨(some 56), .load 4 true (.t 9), (some (54, false)), 63, 0⟩,
           ⟨(some 57), .callF 19 [(.t 55), (.t 56)], (some (54, false)), 255, 0⟩,
           ⟨(some 58), .un .not (.t 57), (some (54, false)), 511, 0⟩,
           ⟨(some 59), .pick (.t 54) (.c (.d (.sc (.bool true)))) (.t 58), none, 1023, 0⟩,
           ⟨(some 60), .mov (.t 59), none, 2047, 0⟩,
           ⟨(some 61), .mov (.t 8), (some (60, false)), 4095, 0⟩,
           ⟨(some 62), .mov (.t 10), (some (60, false)), 4095, 0⟩,
           ⟨(some 63), .bin .neq (.t 61) (.t 62), (some (60, false)), 16383, 0⟩,
           ⟨(some 64), .pick (.t 60) (.c (.d (.sc (.bool true)))) (.t 63), none, 32767, 0⟩,
           ⟨(some 65), .mov (.t 64), none, 65535, 0⟩,
           ⟨(some 66), .mov (.t 12), (some (65, false)), 131071, 0⟩,
           ⟨(some 67), .mov (.t 14), (some (65, false)), 131071, 0⟩,
           ⟨(some 68), .bin .neq (.t 66) (.t 67), (some (65, false)), 524287, 0⟩,
           ⟨(some 69), .pick (.t 65) (.c (.d (.sc (.bool true)))) (.t 68), none, 1048575, 0⟩,
           ⟨(some 70), .mov (.t 69), none, 2097151, 0⟩,
           ⟨(some 71), .mov (.t 11), (some (70, false)), 4194303, 0⟩,
           ⟨(some 72), .len (.t 71), (some (70, false)), 8388607, 0⟩,
           ⟨(some 73), .mov (.t 13), (some (70, false)), 4194303, 0⟩,
           ⟨(some 74), .len (.t 73), (some (70, false)), 20971519, 0⟩,
           ⟨(some 75), .bin .neq (.t 72) (.t 74), (some (70, false)), 67108863, 0⟩,
           ⟨(some 76), .pick (.t 70) (.c (.d (.sc (.bool true)))) (.t 75), none, 134217727, 0⟩] true)
         (.cond (.t 76)
          (.seq
           (.region [⟨(some 6), .mov (.c (.d (.sc (.bool false)))), none, 0, 0⟩] false)
           .ret)
          .skip))
        (.seq
         (.seq
          (.region [⟨(some 15), .mov (.c (.d (.sc (.int .i64 0)))), none, 0, 0⟩] false)
          (.block 0
           (.loop
            (.seq
             (.seq
              (.region [⟨(some 77), .mov (.t 15), none, 0, 0⟩,
                ⟨(some 78), .mov (.t 11), none, 0, 0⟩,
                ⟨(some 79), .len (.t 78), none, 0, 0⟩,
                ⟨(some 80), .bin .lss (.t 77) (.t 79), none, 0, 0⟩] false)
              (.cond (.t 80)
               .skip
               (.exit 0)))
             (.seq
              (.block 1
               (.seq
                (.region [⟨(some 83), .mov (.t 11), none, 0, 0⟩,
                  ⟨(some 84), .mov (.t 15), none, 0, 0⟩,
                  ⟨(some 85), .indexAddr 1 (.t 83) (.t 84), none, 3, 0⟩,
                  ⟨(some 86), .load 1 false (.t 85), none, 7, 0⟩,
                  ⟨(some 87), .mov (.t 13), none, 0, 0⟩,
                  ⟨(some 88), .mov (.t 15), none, 0, 0⟩,
                  ⟨(some 89), .indexAddr 1 (.t 87) (.t 88), none, 48, 0⟩,
                  ⟨(some 90), .load 1 false (.t 89), none, 112, 0⟩,
                  ⟨(some 91), .bin .neq (.t 86) (.t 90), none, 255, 0⟩] true)
                (.cond (.t 91)
                 (.seq
                  (.region [⟨(some 6), .mov (.c (.d (.sc (.bool false)))), none, 0, 0⟩] false)
                  .ret)
                 .skip)))
              (.region [⟨(some 81), .mov (.t 15), none, 0, 0⟩,
                ⟨(some 82), .bin .add (.t 81) (.c (.d (.sc (.int .i64 1)))), none, 0, 0⟩,
                ⟨(some 15), .mov (.t 82), none, 0, 0⟩] false))))))
         (.seq
          (.region [⟨(some 6), .mov (.c (.d (.sc (.bool true)))), none, 0, 0⟩] false)
          .ret))))))))), false⟩
def md : Nat → Eng.Mode := fun f => match f with
  | 78 => ⟨[], false⟩
  | 79 => ⟨[], false⟩
  | 52 => ⟨[], false⟩
  | 50 => ⟨[], false⟩
  | 51 => ⟨[], false⟩
  | 24 => ⟨[], false⟩
  | 9 => ⟨[], false⟩
  | 17 => ⟨[], false⟩
  | 80 => ⟨[], true⟩
  | 56 => ⟨[], true⟩
  | 45 => ⟨[], false⟩
  | 57 => ⟨[], false⟩
  | 31 => ⟨[], false⟩
  | 85 => ⟨[], true⟩
  | 71 => ⟨[], true⟩
  | 70 => ⟨[], true⟩
  | 81 => ⟨[], true⟩
  | 98 => ⟨[], true⟩
  | 83 => ⟨[], false⟩
  | 82 => ⟨[], false⟩
  | 59 => ⟨[], false⟩
  | 60 => ⟨[], true⟩
  | 61 => ⟨[], false⟩
  | 62 => ⟨[], true⟩
  | 63 => ⟨[], false⟩
  | 37 => ⟨[], false⟩
  | 21 => ⟨[], false⟩
  | 72 => ⟨[], false⟩
  | 41 => ⟨[], false⟩
  | 68 => ⟨[(7, 1)], false⟩
  | 33 => ⟨[(16, 1), (13, 1), (10, 1), (32, 1)], false⟩
  | 42 => ⟨[(7, 1)], false⟩
  | 86 => ⟨[(22, 1), (4, 262148)], true⟩
  | 74 => ⟨[(24, 262145)], false⟩
  | 43 => ⟨[(45, 2), (130, 2), (124, 3), (39, 1)], true⟩
  | 18 => ⟨[(11, 2), (22, 327684)], false⟩
  | 55 => ⟨[], false⟩
  | 34 => ⟨[], false⟩
  | 49 => ⟨[], false⟩
  | 77 => ⟨[], false⟩
  | 48 => ⟨[], false⟩
  | 44 => ⟨[], false⟩
  | 20 => ⟨[], false⟩
  | 23 => ⟨[], false⟩
  | 38 => ⟨[], false⟩
  | 27 => ⟨[], false⟩
  | 53 => ⟨[], false⟩
  | 54 => ⟨[(123, 3), (35, 1), (12, 1), (9, 1)], false⟩
  | 25 => ⟨[], false⟩
  | 22 => ⟨[(5, 65540), (31, 1)], false⟩
  | 26 => ⟨[], false⟩
  | 19 => ⟨[], false⟩
  | 7 => ⟨[], false⟩
  | _ => ⟨[], false⟩
def lib : Nat → Option TypeId := fun f => match f with
  | 46 => some 1000000
  | 47 => some 1000001
  | 64 => some 42
  | 65 => some 43
  | 66 => some 44
  | 67 => some 49
  | 73 => some 22
  | 84 => some 86
  | _ => none
def tabL : List (Nat × AFn) := [(78, t78), (79, t79), (52, t52), (50, t50), (51, t51), (24, t24), (9, t9), (17, t17), (80, t80), (56, t56), (45, t45), (57, t57), (31, t31), (85, t85), (71, t71), (70, t70), (81, t81), (98, t98), (83, t83), (82, t82), (59, t59), (60, t60), (61, t61), (62, t62), (63, t63), (37, t37), (21, t21), (72, t72), (41, t41), (68, t68), (33, t33), (42, t42), (86, t86), (74, t74), (43, t43), (18, t18), (55, t55), (34, t34), (49, t49), (77, t77), (48, t48), (44, t44), (20, t20), (23, t23), (38, t38), (27, t27), (53, t53), (54, t54), (25, t25), (22, t22), (26, t26), (19, t19), (7, t7)]
def tab : Nat → Option AFn := Go.Sym.tabAt tabL
theorem tab78 : fnP Try.prog lib md 78 = some t78 := by kernel_rfl
theorem tab79 : fnP Try.prog lib md 79 = some t79 := by kernel_rfl
theorem tab52 : fnP Try.prog lib md 52 = some t52 := by kernel_rfl
theorem tab50 : fnP Try.prog lib md 50 = some t50 := by kernel_rfl
theorem tab51 : fnP Try.prog lib md 51 = some t51 := by kernel_rfl
theorem tab24 : fnP Try.prog lib md 24 = some t24 := by kernel_rfl
theorem tab9 : fnP Try.prog lib md 9 = some t9 := by kernel_rfl
theorem tab17 : fnP Try.prog lib md 17 = some t17 := by kernel_rfl
theorem tab80 : fnP Try.prog lib md 80 = some t80 := by kernel_rfl
theorem tab56 : fnP Try.prog lib md 56 = some t56 := by kernel_rfl
theorem tab45 : fnP Try.prog lib md 45 = some t45 := by kernel_rfl
theorem tab57 : fnP Try.prog lib md 57 = some t57 := by kernel_rfl
theorem tab31 : fnP Try.prog lib md 31 = some t31 := by kernel_rfl
theorem tab85 : fnP Try.prog lib md 85 = some t85 := by kernel_rfl
theorem tab71 : fnP Try.prog lib md 71 = some t71 := by kernel_rfl
theorem tab70 : fnP Try.prog lib md 70 = some t70 := by kernel_rfl
theorem tab81 : fnP Try.prog lib md 81 = some t81 := by kernel_rfl
theorem tab98 : fnP Try.prog lib md 98 = some t98 := by kernel_rfl
theorem tab83 : fnP Try.prog lib md 83 = some t83 := by kernel_rfl
theorem tab82 : fnP Try.prog lib md 82 = some t82 := by kernel_rfl
theorem tab59 : fnP Try.prog lib md 59 = some t59 := by kernel_rfl
theorem tab60 : fnP Try.prog lib md 60 = some t60 := by kernel_rfl
theorem tab61 : fnP Try.prog lib md 61 = some t61 := by kernel_rfl
theorem tab62 : fnP Try.prog lib md 62 = some t62 := by kernel_rfl
theorem tab63 : fnP Try.prog lib md 63 = some t63 := by kernel_rfl
theorem tab37 : fnP Try.prog lib md 37 = some t37 := by kernel_rfl
theorem tab21 : fnP Try.prog lib md 21 = some t21 := by kernel_rfl
theorem tab72 : fnP Try.prog lib md 72 = some t72 := by kernel_rfl
theorem tab41 : fnP Try.prog lib md 41 = some t41 := by kernel_rfl
theorem tab68 : fnP Try.prog lib md 68 = some t68 := by kernel_rfl
theorem tab33 : fnP Try.prog lib md 33 = some t33 := by kernel_rfl
theorem tab42 : fnP Try.prog lib md 42 = some t42 := by kernel_rfl
theorem tab86 : fnP Try.prog lib md 86 = some t86 := by kernel_rfl
theorem tab74 : fnP Try.prog lib md 74 = some t74 := by kernel_rfl
theorem tab43 : fnP Try.prog lib md 43 = some t43 := by kernel_rfl
theorem tab18 : fnP Try.prog lib md 18 = some t18 := by kernel_rfl
theorem tab55 : fnP Try.prog lib md 55 = some t55 := by kernel_rfl
theorem tab34 : fnP Try.prog lib md 34 = some t34 := by kernel_rfl
theorem tab49 : fnP Try.prog lib md 49 = some t49 := by kernel_rfl
theorem tab77 : fnP Try.prog lib md 77 = some t77 := by kernel_rfl
theorem tab48 : fnP Try.prog lib md 48 = some t48 := by kernel_rfl
theorem tab44 : fnP Try.prog lib md 44 = some t44 := by kernel_rfl
theorem tab20 : fnP Try.prog lib md 20 = some t20 := by kernel_rfl
theorem tab23 : fnP Try.prog lib md 23 = some t23 := by kernel_rfl
theorem tab38 : fnP Try.prog lib md 38 = some t38 := by kernel_rfl
theorem tab27 : fnP Try.prog lib md 27 = some t27 := by kernel_rfl
theorem tab53 : fnP Try.prog lib md 53 = some t53 := by kernel_rfl
theorem tab54 : fnP Try.prog lib md 54 = some t54 := by kernel_rfl
theorem tab25 : fnP Try.prog lib md 25 = some t25 := by kernel_rfl
theorem tab22 : fnP Try.prog lib md 22 = some t22 := by kernel_rfl
theorem tab26 : fnP Try.prog lib md 26 = some t26 := by kernel_rfl
theorem tab19 : fnP Try.prog lib md 19 = some t19 := by kernel_rfl
theorem tab7 : fnP Try.prog lib md 7 = some t7 := by kernel_rfl
theorem tabOK : ∀ f fn, tab f = some fn → fnP Try.prog lib md f = some fn := Go.Sym.tabAt_ok <| .cons tab78 <| .cons tab79 <| .cons tab52 <| .cons tab50 <| .cons tab51 <| .cons tab24 <| .cons tab9 <| .cons tab17 <| .cons tab80 <| .cons tab56 <| .cons tab45 <| .cons tab57 <| .cons tab31 <| .cons tab85 <| .cons tab71 <| .cons tab70 <| .cons tab81 <| .cons tab98 <| .cons tab83 <| .cons tab82 <| .cons tab59 <| .cons tab60 <| .cons tab61 <| .cons tab62 <| .cons tab63 <| .cons tab37 <| .cons tab21 <| .cons tab72 <| .cons tab41 <| .cons tab68 <| .cons tab33 <| .cons tab42 <| .cons tab86 <| .cons tab74 <| .cons tab43 <| .cons tab18 <| .cons tab55 <| .cons tab34 <| .cons tab49 <| .cons tab77 <| .cons tab48 <| .cons tab44 <| .cons tab20 <| .cons tab23 <| .cons tab38 <| .cons tab27 <| .cons tab53 <| .cons tab54 <| .cons tab25 <| .cons tab22 <| .cons tab26 <| .cons tab19 <| .cons tab7 <| .nil
theorem clone46 : IsLib Try.prog 46 1000000 := ⟨fun h => absurd rfl h, fun _ => isSort_of Try.lays189 ⟨_, Try.func46, by kernel_rfl, by kernel_rfl⟩, fun h => absurd h (by decide)⟩
theorem clone47 : IsLib Try.prog 47 1000001 := ⟨fun _ h => absurd rfl h, fun h => absurd h (by decide), fun _ => isCompact_of Try.lays20 ⟨_, Try.func47, by kernel_rfl, by kernel_rfl⟩⟩
theorem clone64 : IsLib Try.prog 64 42 := ⟨fun _ _ => ⟨_, Try.func64, by kernel_rfl, by kernel_rfl, by kernel_rfl, by kernel_rfl⟩, fun h => absurd h (by decide), fun h => absurd h (by decide)⟩
theorem clone65 : IsLib Try.prog 65 43 := ⟨fun _ _ => ⟨_, Try.func65, by kernel_rfl, by kernel_rfl, by kernel_rfl, by kernel_rfl⟩, fun h => absurd h (by decide), fun h => absurd h (by decide)⟩
theorem clone66 : IsLib Try.prog 66 44 := ⟨fun _ _ => ⟨_, Try.func66, by kernel_rfl, by kernel_rfl, by kernel_rfl, by kernel_rfl⟩, fun h => absurd h (by decide), fun h => absurd h (by decide)⟩
theorem clone67 : IsLib Try.prog 67 49 := ⟨fun _ _ => ⟨_, Try.func67, by kernel_rfl, by kernel_rfl, by kernel_rfl, by kernel_rfl⟩, fun h => absurd h (by decide), fun h => absurd h (by decide)⟩
theorem clone73 : IsLib Try.prog 73 22 := ⟨fun _ _ => ⟨_, Try.func73, by kernel_rfl, by kernel_rfl, by kernel_rfl, by kernel_rfl⟩, fun h => absurd h (by decide), fun h => absurd h (by decide)⟩
theorem clone84 : IsLib Try.prog 84 86 := ⟨fun _ _ => ⟨_, Try.func84, by kernel_rfl, by kernel_rfl, by kernel_rfl, by kernel_rfl⟩, fun h => absurd h (by decide), fun h => absurd h (by decide)⟩
theorem libOK : ∀ f T, lib f = some T → IsLib Try.prog f T := by
  intro f T h
  unfold lib at h
  split at h
  · injection h with h; subst h; exact clone46
  · injection h with h; subst h; exact clone47
  · injection h with h; subst h; exact clone64
  · injection h with h; subst h; exact clone65
  · injection h with h; subst h; exact clone66
  · injection h with h; subst h; exact clone67
  · injection h with h; subst h; exact clone73
  · injection h with h; subst h; exact clone84
  · cases h
end Go.Proofs.Ytdefleeofgekkaa
