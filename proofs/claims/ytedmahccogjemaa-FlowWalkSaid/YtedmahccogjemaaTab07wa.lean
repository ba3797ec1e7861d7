/- The tables of the functions. -/
import Derived.Test.YtedmahccogjemaaSymN
import Derived.Test.YtedmahccogjemaaRows
import Derived.ProofKit
import Derived.Test.YtedmahccogjemaaEngCompact
import Derived.Test.YtedmahccogjemaaLay07
namespace Go.Proofs.Ytedmahccogjemaa
open Go Go.Eng
/-- wreckage/wreckageref07.Great -/
def t10 : AFn := ⟨1, 16, [.t 2],
 (.seq
  (.region [⟨(some 2), .mov (.c (.d (.sc (.bool false)))), none, 0, 0⟩] false)
  (.seq
   (.region [⟨(some 3), .mov (.t 0), none, 0, 0⟩,
     ⟨(some 4), .len (.t 3), none, 0, 0⟩,
     ⟨(some 5), .bin .gtr (.t 4) (.c (.d (.sc (.int .i64 60)))), none, 0, 0⟩,
     ⟨(some 6), .mov (.t 5), none, 0, 0⟩,
     ⟨(some 7), .mov (.t 0), (some (6, true)), 0, 0⟩,
     ⟨(some 8), .len (.t 7), (some (6, true)), 0, 0⟩,
     ⟨(some 9), .bin .leq (.t 8) (.c (.d (.sc (.int .i64 200)))), (some (6, true)), 0, 0⟩,
     ⟨(some 10), .pick (.t 6) (.t 9) (.c (.d (.sc (.bool false)))), none, 0, 0⟩,
     ⟨(some 11), .mov (.t 10), none, 0, 0⟩,
     ⟨(some 12), .mov (.t 0), (some (11, false)), 0, 0⟩,
     ⟨(some 13), .len (.t 12), (some (11, false)), 0, 0⟩,
     ⟨(some 14), .bin .gtr (.t 13) (.c (.d (.sc (.int .i64 210)))), (some (11, false)), 0, 0⟩,
     ⟨(some 15), .pick (.t 11) (.c (.d (.sc (.bool true)))) (.t 14), none, 0, 0⟩,
     ⟨(some 2), .mov (.t 15), none, 0, 0⟩] false)
   .ret)), false⟩
/-- wreckage/wreckageref06.Shape -/
def t57 : AFn := ⟨1, 57, [.t 2],
 (.seq
  (.region [⟨(some 2), .mov (.c (.d (.sc (.string ⟨#[]⟩)))), none, 0, 0⟩] false)
  (.seq
   (.seq
    (.region [⟨(some 3), .mov (.t 0), none, 0, 0⟩] false)
    (.block 0
     (.seq
      (.region [⟨(some 5), .bin .eql (.t 3) (.c (.d (.sc (.int .u8 1)))), none, 0, 0⟩,
        ⟨(some 4), .mov (.t 5), none, 0, 0⟩] false)
      (.cond (.t 4)
       (.seq
        (.region [⟨(some 2), .mov (.c (.d (.sc (.string ⟨#[119, 110, 45]⟩)))), none, 0, 0⟩] false)
        .ret)
       (.seq
        (.region [⟨(some 7), .bin .eql (.t 3) (.c (.d (.sc (.int .u8 2)))), none, 0, 0⟩,
          ⟨(some 6), .mov (.t 7), none, 0, 0⟩] false)
        (.cond (.t 6)
         (.seq
          (.region [⟨(some 2), .mov (.c (.d (.sc (.string ⟨#[119, 116, 45]⟩)))), none, 0, 0⟩] false)
          .ret)
         (.seq
          (.region [⟨(some 9), .bin .eql (.t 3) (.c (.d (.sc (.int .u8 3)))), none, 0, 0⟩,
            ⟨(some 8), .mov (.t 9), none, 0, 0⟩] false)
          (.cond (.t 8)
           (.seq
            (.region [⟨(some 2), .mov (.c (.d (.sc (.string ⟨#[119, 98, 45]⟩)))), none, 0, 0⟩] false)
            .ret)
           (.seq
            (.seq
             (.region [⟨(some 11), .bin .eql (.t 3) (.c (.d (.sc (.int .u8 4)))), none, 0, 0⟩,
               ⟨(some 10), .mov (.t 11), none, 0, 0⟩] false)
             (.cond (.t 10)
              .skip
              (.region [⟨(some 12), .bin .eql (.t 3) (.c (.d (.sc (.int .u8 15)))), none, 0, 0⟩,
                ⟨(some 10), .mov (.t 12), none, 0, 0⟩] false)))
            (.cond (.t 10)
             (.seq
              (.region [⟨(some 2), .mov (.c (.d (.sc (.string ⟨#[119, 45, 45]⟩)))), none, 0, 0⟩] false)
              .ret)
             (.seq
              (.seq
               (.region [⟨(some 14), .bin .eql (.t 3) (.c (.d (.sc (.int .u8 5)))), none, 0, 0⟩,
                 ⟨(some 13), .mov (.t 14), none, 0, 0⟩] false)
               (.cond (.t 13)
                .skip
                (.seq
                 (.region [⟨(some 15), .bin .eql (.t 3) (.c (.d (.sc (.int .u8 12)))), none, 0, 0⟩,
                   ⟨(some 13), .mov (.t 15), none, 0, 0⟩] false)
                 (.cond (.t 13)
                  .skip
                  (.seq
                   (.region [⟨(some 16), .bin .eql (.t 3) (.c (.d (.sc (.int .u8 16)))), none, 0, 0⟩,
                     ⟨(some 13), .mov (.t 16), none, 0, 0⟩] false)
                   (.cond (.t 13)
                    .skip
                    (.seq
                     (.region [⟨(some 17), .bin .eql (.t 3) (.c (.d (.sc (.int .u8 18)))), none, 0, 0⟩,
                       ⟨(some 13), .mov (.t 17), none, 0, 0⟩] false)
                     (.cond (.t 13)
                      .skip
                      (.region [⟨(some 18), .bin .eql (.t 3) (.c (.d (.sc (.int .u8 21)))), none, 0, 0⟩,
                        ⟨(some 13), .mov (.t 18), none, 0, 0⟩] false)))))))))
              (.cond (.t 13)
               (.seq
                (.region [⟨(some 2), .mov (.c (.d (.sc (.string ⟨#[119, 114, 45]⟩)))), none, 0, 0⟩] false)
                .ret)
               (.seq
                (.seq
                 (.region [⟨(some 20), .bin .eql (.t 3) (.c (.d (.sc (.int .u8 6)))), none, 0, 0⟩,
                   ⟨(some 19), .mov (.t 20), none, 0, 0⟩] false)
                 (.cond (.t 19)
                  .skip
                  (.seq
                   (.region [⟨(some 21), .bin .eql (.t 3) (.c (.d (.sc (.int .u8 7)))), none, 0, 0⟩,
                     ⟨(some 19), .mov (.t 21), none, 0, 0⟩] false)
                   (.cond (.t 19)
                    .skip
                    (.seq
                     (.region [⟨(some 22), .bin .eql (.t 3) (.c (.d (.sc (.int .u8 8)))), none, 0, 0⟩,
                       ⟨(some 19), .mov (.t 22), none, 0, 0⟩] false)
                     (.cond (.t 19)
                      .skip
                      (.seq
                       (.region [⟨(some 23), .bin .eql (.t 3) (.c (.d (.sc (.int .u8 9)))), none, 0, 0⟩,
                         ⟨(some 19), .mov (.t 23), none, 0, 0⟩] false)
                       (.cond (.t 19)
                        .skip
                        (.seq
                         (.region [⟨(some 24), .bin .eql (.t 3) (.c (.d (.sc (.int .u8 10)))), none, 0, 0⟩,
                           ⟨(some 19), .mov (.t 24), none, 0, 0⟩] false)
                         (.cond (.t 19)
                          .skip
                          (.seq
                           (.region [⟨(some 25), .bin .eql (.t 3) (.c (.d (.sc (.int .u8 11)))), none, 0, 0⟩,
                             ⟨(some 19), .mov (.t 25), none, 0, 0⟩] false)
                           (.cond (.t 19)
                            .skip
                            (.region [⟨(some 26), .bin .eql (.t 3) (.c (.d (.sc (.int .u8 19)))), none, 0, 0⟩,
                              ⟨(some 19), .mov (.t 26), none, 0, 0⟩] false)))))))))))))
                (.cond (.t 19)
                 (.seq
                  (.region [⟨(some 2), .mov (.c (.d (.sc (.string ⟨#[119, 114, 114]⟩)))), none, 0, 0⟩] false)
                  .ret)
                 (.seq
                  (.region [⟨(some 28), .bin .eql (.t 3) (.c (.d (.sc (.int .u8 13)))), none, 0, 0⟩,
                    ⟨(some 27), .mov (.t 28), none, 0, 0⟩] false)
                  (.cond (.t 27)
                   (.seq
                    (.region [⟨(some 2), .mov (.c (.d (.sc (.string ⟨#[119, 114, 102]⟩)))), none, 0, 0⟩] false)
                    .ret)
                   (.seq
                    (.region [⟨(some 30), .bin .eql (.t 3) (.c (.d (.sc (.int .u8 14)))), none, 0, 0⟩,
                      ⟨(some 29), .mov (.t 30), none, 0, 0⟩] false)
                    (.cond (.t 29)
                     (.seq
                      (.region [⟨(some 2), .mov (.c (.d (.sc (.string ⟨#[114, 102, 114]⟩)))), none, 0, 0⟩] false)
                      .ret)
                     (.seq
                      (.region [⟨(some 32), .bin .eql (.t 3) (.c (.d (.sc (.int .u8 17)))), none, 0, 0⟩,
                        ⟨(some 31), .mov (.t 32), none, 0, 0⟩] false)
                      (.cond (.t 31)
                       (.seq
                        (.region [⟨(some 2), .mov (.c (.d (.sc (.string ⟨#[114, 114, 45]⟩)))), none, 0, 0⟩] false)
                        .ret)
                       (.seq
                        (.region [⟨(some 34), .bin .eql (.t 3) (.c (.d (.sc (.int .u8 20)))), none, 0, 0⟩,
                          ⟨(some 33), .mov (.t 34), none, 0, 0⟩] false)
                        (.cond (.t 33)
                         (.seq
                          (.region [⟨(some 2), .mov (.c (.d (.sc (.string ⟨#[114, 114, 114]⟩)))), none, 0, 0⟩] false)
                          .ret)
                         (.seq
                          (.region [⟨(some 36), .bin .eql (.t 3) (.c (.d (.sc (.int .u8 22)))), none, 0, 0⟩,
                            ⟨(some 35), .mov (.t 36), none, 0, 0⟩] false)
                          (.cond (.t 35)
                           (.seq
                            (.region [⟨(some 2), .mov (.c (.d (.sc (.string ⟨#[105, 45, 45]⟩)))), none, 0, 0⟩] false)
                            .ret)
                           (.seq
                            (.region [⟨(some 38), .bin .eql (.t 3) (.c (.d (.sc (.int .u8 23)))), none, 0, 0⟩,
                              ⟨(some 37), .mov (.t 38), none, 0, 0⟩] false)
                            (.cond (.t 37)
                             (.seq
                              (.region [⟨(some 2), .mov (.c (.d (.sc (.string ⟨#[114, 105, 45]⟩)))), none, 0, 0⟩] false)
                              .ret)
                             (.seq
                              (.seq
                               (.region [⟨(some 40), .bin .eql (.t 3) (.c (.d (.sc (.int .u8 24)))), none, 0, 0⟩,
                                 ⟨(some 39), .mov (.t 40), none, 0, 0⟩] false)
                               (.cond (.t 39)
                                .skip
                                (.seq
                                 (.region [⟨(some 41), .bin .eql (.t 3) (.c (.d (.sc (.int .u8 28)))), none, 0, 0⟩,
                                   ⟨(some 39), .mov (.t 41), none, 0, 0⟩] false)
                                 (.cond (.t 39)
                                  .skip
                                  (.region [⟨(some 42), .bin .eql (.t 3) (.c (.d (.sc (.int .u8 32)))), none, 0, 0⟩,
                                    ⟨(some 39), .mov (.t 42), none, 0, 0⟩] false)))))
                              (.cond (.t 39)
                               (.seq
                                (.region [⟨(some 2), .mov (.c (.d (.sc (.string ⟨#[114, 45, 45]⟩)))), none, 0, 0⟩] false)
                                .ret)
                               (.seq
                                (.region [⟨(some 44), .bin .eql (.t 3) (.c (.d (.sc (.int .u8 25)))), none, 0, 0⟩,
                                  ⟨(some 43), .mov (.t 44), none, 0, 0⟩] false)
                                (.cond (.t 43)
                                 (.seq
                                  (.region [⟨(some 2), .mov (.c (.d (.sc (.string ⟨#[103, 99, 45]⟩)))), none, 0, 0⟩] false)
                                  .ret)
                                 (.seq
                                  (.seq
                                   (.region [⟨(some 46), .bin .eql (.t 3) (.c (.d (.sc (.int .u8 26)))), none, 0, 0⟩,
                                     ⟨(some 45), .mov (.t 46), none, 0, 0⟩] false)
                                   (.cond (.t 45)
                                    .skip
                                    (.region [⟨(some 47), .bin .eql (.t 3) (.c (.d (.sc (.int .u8 27)))), none, 0, 0⟩,
                                      ⟨(some 45), .mov (.t 47), none, 0, 0⟩] false)))
                                  (.cond (.t 45)
                                   (.seq
                                    (.region [⟨(some 2), .mov (.c (.d (.sc (.string ⟨#[99, 45, 45]⟩)))), none, 0, 0⟩] false)
                                    .ret)
                                   (.seq
                                    (.region [⟨(some 49), .bin .eql (.t 3) (.c (.d (.sc (.int .u8 29)))), none, 0, 0⟩,
                                      ⟨(some 48), .mov (.t 49), none, 0, 0⟩] false)
                                    (.cond (.t 48)
                                     (.seq
                                      (.region [⟨(some 2), .mov (.c (.d (.sc (.string ⟨#[119, 119, 45]⟩)))), none, 0, 0⟩] false)
                                      .ret)
                                     (.seq
                                      (.seq
                                       (.region [⟨(some 51), .bin .eql (.t 3) (.c (.d (.sc (.int .u8 30)))), none, 0, 0⟩,
                                         ⟨(some 50), .mov (.t 51), none, 0, 0⟩] false)
                                       (.cond (.t 50)
                                        .skip
                                        (.region [⟨(some 52), .bin .eql (.t 3) (.c (.d (.sc (.int .u8 31)))), none, 0, 0⟩,
                                          ⟨(some 50), .mov (.t 52), none, 0, 0⟩] false)))
                                      (.cond (.t 50)
                                       (.seq
                                        (.region [⟨(some 2), .mov (.c (.d (.sc (.string ⟨#[45, 45, 45]⟩)))), none, 0, 0⟩] false)
                                        .ret)
                                       (.seq
                                        (.region [⟨(some 54), .bin .eql (.t 3) (.c (.d (.sc (.int .u8 33)))), none, 0, 0⟩,
                                          ⟨(some 53), .mov (.t 54), none, 0, 0⟩] false)
                                        (.cond (.t 53)
                                         (.seq
                                          (.region [⟨(some 2), .mov (.c (.d (.sc (.string ⟨#[119, 114, 45]⟩)))), none, 0, 0⟩] false)
                                          .ret)
                                         (.seq
                                          (.region [⟨(some 56), .bin .eql (.t 3) (.c (.d (.sc (.int .u8 34)))), none, 0, 0⟩,
                                            ⟨(some 55), .mov (.t 56), none, 0, 0⟩] false)
                                          (.cond (.t 55)
                                           (.seq
                                            (.region [⟨(some 2), .mov (.c (.d (.sc (.string ⟨#[101, 45, 45]⟩)))), none, 0, 0⟩] false)
                                            .ret)
                                           .skip))))))))))))))))))))))))))))))))))))))))
   (.seq
    (.region [⟨(some 2), .mov (.c (.d (.sc (.string ⟨#[]⟩)))), none, 0, 0⟩] false)
    .ret))), false⟩
/-- wreckage/wreckageref06.Operands -/
def t58 : AFn := ⟨1, 10, [.cell 2 3 true],
 (.seq
  (.region [⟨(some 1), .box (.t 0), none, 0, 0⟩,
    ⟨(some 2), .alloc [(.d (.sc (.int .i64 0))), (.d (.sc (.int .i64 0))), (.d (.sc (.int .i64 0)))], none, 0, 0⟩] false)
  (.seq
   (.region [⟨(some 3), .fieldAddr 1 (.t 1), none, 0, 0⟩,
     ⟨(some 4), .load 1 false (.t 3), none, 0, 0⟩,
     ⟨(some 5), .fieldAddr 2 (.t 1), none, 0, 0⟩,
     ⟨(some 6), .load 1 false (.t 5), none, 0, 0⟩,
     ⟨(some 7), .fieldAddr 3 (.t 1), none, 0, 0⟩,
     ⟨(some 8), .load 1 false (.t 7), none, 0, 0⟩,
     ⟨(some 9), .build [(.d (.sc (.int .i64 0))), (.d (.sc (.int .i64 0))), (.d (.sc (.int .i64 0)))] [(0, 1, (.t 4)), (1, 1, (.t 6)), (2, 1, (.t 8))], none, 0, 0⟩,
     ⟨none, .store 3 (.t 2) (.t 9), none, 0, 0⟩] false)
   .ret)), false⟩
/-- wreckage/wreckageref06.Fits -/
def t59 : AFn := ⟨2, 61, [.t 4],
 (.seq
  (.region [⟨(some 4), .mov (.c (.d (.sc (.bool false)))), none, 0, 0⟩] false)
  (.seq
   (.seq
    (.region [⟨(some 5), .mov (.t 0), none, 0, 0⟩] false)
    (.block 0
     (.seq
      (.region [⟨(some 7), .bin .eql (.t 5) (.c (.d (.sc (.int .u8 45)))), none, 0, 0⟩,
        ⟨(some 6), .mov (.t 7), none, 0, 0⟩] false)
      (.cond (.t 6)
       (.seq
        (.region [⟨(some 8), .mov (.t 1), none, 0, 0⟩,
          ⟨(some 9), .bin .eql (.t 8) (.c (.d (.sc (.int .i64 0)))), none, 0, 0⟩,
          ⟨(some 4), .mov (.t 9), none, 0, 0⟩] false)
        .ret)
       (.seq
        (.seq
         (.region [⟨(some 11), .bin .eql (.t 5) (.c (.d (.sc (.int .u8 119)))), none, 0, 0⟩,
           ⟨(some 10), .mov (.t 11), none, 0, 0⟩] false)
         (.cond (.t 10)
          .skip
          (.region [⟨(some 12), .bin .eql (.t 5) (.c (.d (.sc (.int .u8 114)))), none, 0, 0⟩,
            ⟨(some 10), .mov (.t 12), none, 0, 0⟩] false)))
        (.cond (.t 10)
         (.seq
          (.region [⟨(some 13), .mov (.t 1), none, 0, 0⟩,
            ⟨(some 14), .bin .geq (.t 13) (.c (.d (.sc (.int .i64 0)))), none, 0, 0⟩,
            ⟨(some 15), .mov (.t 14), none, 0, 0⟩,
            ⟨(some 16), .mov (.t 1), (some (15, true)), 0, 0⟩,
            ⟨(some 17), .bin .lss (.t 16) (.c (.d (.sc (.int .i64 16)))), (some (15, true)), 0, 0⟩,
            ⟨(some 18), .pick (.t 15) (.t 17) (.c (.d (.sc (.bool false)))), none, 0, 0⟩,
            ⟨(some 4), .mov (.t 18), none, 0, 0⟩] false)
          .ret)
         (.seq
          (.seq
           (.region [⟨(some 20), .bin .eql (.t 5) (.c (.d (.sc (.int .u8 103)))), none, 0, 0⟩,
             ⟨(some 19), .mov (.t 20), none, 0, 0⟩] false)
           (.cond (.t 19)
            .skip
            (.region [⟨(some 21), .bin .eql (.t 5) (.c (.d (.sc (.int .u8 101)))), none, 0, 0⟩,
              ⟨(some 19), .mov (.t 21), none, 0, 0⟩] false)))
          (.cond (.t 19)
           (.seq
            (.region [⟨(some 22), .mov (.t 1), none, 0, 0⟩,
              ⟨(some 23), .bin .geq (.t 22) (.c (.d (.sc (.int .i64 (-1))))), none, 0, 0⟩,
              ⟨(some 24), .mov (.t 23), none, 0, 0⟩,
              ⟨(some 25), .mov (.t 1), (some (24, true)), 0, 0⟩,
              ⟨(some 26), .bin .lss (.t 25) (.c (.d (.sc (.int .i64 16)))), (some (24, true)), 0, 0⟩,
              ⟨(some 27), .pick (.t 24) (.t 26) (.c (.d (.sc (.bool false)))), none, 0, 0⟩,
              ⟨(some 4), .mov (.t 27), none, 0, 0⟩] false)
            .ret)
           (.seq
            (.seq
             (.region [⟨(some 29), .bin .eql (.t 5) (.c (.d (.sc (.int .u8 116)))), none, 0, 0⟩,
               ⟨(some 28), .mov (.t 29), none, 0, 0⟩] false)
             (.cond (.t 28)
              .skip
              (.region [⟨(some 30), .bin .eql (.t 5) (.c (.d (.sc (.int .u8 99)))), none, 0, 0⟩,
                ⟨(some 28), .mov (.t 30), none, 0, 0⟩] false)))
            (.cond (.t 28)
             (.seq
              (.region [⟨(some 31), .mov (.t 1), none, 0, 0⟩,
                ⟨(some 32), .bin .geq (.t 31) (.c (.d (.sc (.int .i64 0)))), none, 0, 0⟩,
                ⟨(some 33), .mov (.t 32), none, 0, 0⟩,
                ⟨(some 34), .mov (.t 1), (some (33, true)), 0, 0⟩,
                ⟨(some 35), .bin .lss (.t 34) (.c (.d (.sc (.int .i64 32)))), (some (33, true)), 0, 0⟩,
                ⟨(some 36), .pick (.t 33) (.t 35) (.c (.d (.sc (.bool false)))), none, 0, 0⟩,
                ⟨(some 4), .mov (.t 36), none, 0, 0⟩] false)
              .ret)
             (.seq
              (.region [⟨(some 38), .bin .eql (.t 5) (.c (.d (.sc (.int .u8 98)))), none, 0, 0⟩,
                ⟨(some 37), .mov (.t 38), none, 0, 0⟩] false)
              (.cond (.t 37)
               (.seq
                (.region [⟨(some 39), .mov (.t 1), none, 0, 0⟩,
                  ⟨(some 40), .bin .geq (.t 39) (.c (.d (.sc (.int .i64 0)))), none, 0, 0⟩,
                  ⟨(some 41), .mov (.t 40), none, 0, 0⟩,
                  ⟨(some 42), .mov (.t 1), (some (41, true)), 0, 0⟩,
                  ⟨(some 43), .bin .lss (.t 42) (.c (.d (.sc (.int .i64 2)))), (some (41, true)), 0, 0⟩,
                  ⟨(some 44), .pick (.t 41) (.t 43) (.c (.d (.sc (.bool false)))), none, 0, 0⟩,
                  ⟨(some 4), .mov (.t 44), none, 0, 0⟩] false)
                .ret)
               (.seq
                (.region [⟨(some 46), .bin .eql (.t 5) (.c (.d (.sc (.int .u8 102)))), none, 0, 0⟩,
                  ⟨(some 45), .mov (.t 46), none, 0, 0⟩] false)
                (.cond (.t 45)
                 (.seq
                  (.region [⟨(some 47), .mov (.t 1), none, 0, 0⟩,
                    ⟨(some 48), .bin .geq (.t 47) (.c (.d (.sc (.int .i64 0)))), none, 0, 0⟩,
                    ⟨(some 49), .mov (.t 48), none, 0, 0⟩,
                    ⟨(some 50), .mov (.t 1), (some (49, true)), 0, 0⟩,
                    ⟨(some 51), .bin .lss (.t 50) (.c (.d (.sc (.int .i64 8)))), (some (49, true)), 0, 0⟩,
                    ⟨(some 52), .pick (.t 49) (.t 51) (.c (.d (.sc (.bool false)))), none, 0, 0⟩,
                    ⟨(some 4), .mov (.t 52), none, 0, 0⟩] false)
                  .ret)
                 (.seq
                  (.region [⟨(some 54), .bin .eql (.t 5) (.c (.d (.sc (.int .u8 105)))), none, 0, 0⟩,
                    ⟨(some 53), .mov (.t 54), none, 0, 0⟩] false)
                  (.cond (.t 53)
                   (.seq
                    (.region [⟨(some 55), .mov (.t 1), none, 0, 0⟩,
                      ⟨(some 56), .bin .geq (.t 55) (.c (.d (.sc (.int .i64 0)))), none, 0, 0⟩,
                      ⟨(some 57), .mov (.t 56), none, 0, 0⟩,
                      ⟨(some 58), .mov (.t 1), (some (57, true)), 0, 0⟩,
                      ⟨(some 59), .bin .lss (.t 58) (.c (.d (.sc (.int .i64 200)))), (some (57, true)), 0, 0⟩,
                      ⟨(some 60), .pick (.t 57) (.t 59) (.c (.d (.sc (.bool false)))), none, 0, 0⟩,
                      ⟨(some 4), .mov (.t 60), none, 0, 0⟩] false)
                    .ret)
                   .skip))))))))))))))))
   (.seq
    (.region [⟨(some 4), .mov (.c (.d (.sc (.bool true)))), none, 0, 0⟩] false)
    .ret))), false⟩
/-- wreckage/wreckageref06.Check -/
def t41 : AFn := ⟨1, 26, [.t 2],
 (.seq
  (.region [⟨(some 1), .box (.t 0), none, 0, 0⟩,
    ⟨(some 2), .mov (.c (.d (.sc (.int .i64 0)))), none, 0, 0⟩] false)
  (.seq
   (.region [⟨(some 6), .fieldAddr 0 (.t 1), none, 0, 0⟩,
     ⟨(some 7), .load 1 false (.t 6), none, 1, 0⟩,
     ⟨(some 8), .callF 57 [(.t 7)], none, 3, 0⟩,
     ⟨(some 9), .load 4 true (.t 1), none, 0, 0⟩,
     ⟨(some 10), .callF 58 [(.t 9)], none, 15, 0⟩,
     ⟨(some 4), .alloc [(.d (.sc (.int .i64 0))), (.d (.sc (.int .i64 0))), (.d (.sc (.int .i64 0)))], none, 0, 0⟩,
     ⟨(some 3), .mov (.t 8), none, 63, 0⟩,
     ⟨none, .store 3 (.t 4) (.t 10), none, 127, 0⟩] true)
   (.seq
    (.seq
     (.region [⟨(some 11), .mov (.t 3), none, 0, 0⟩,
       ⟨(some 12), .lenS (.t 11), none, 0, 0⟩,
       ⟨(some 13), .bin .neq (.t 12) (.c (.d (.sc (.int .i64 3)))), none, 0, 0⟩] false)
     (.cond (.t 13)
      (.seq
       (.region [⟨(some 2), .mov (.c (.d (.sc (.int .i64 8)))), none, 0, 0⟩] false)
       .ret)
      .skip))
    (.seq
     (.seq
      (.region [⟨(some 5), .mov (.c (.d (.sc (.int .i64 0)))), none, 0, 0⟩] false)
      (.block 0
       (.loop
        (.seq
         (.seq
          (.region [⟨(some 14), .mov (.t 5), none, 0, 0⟩,
            ⟨(some 15), .bin .lss (.t 14) (.c (.d (.sc (.int .i64 3)))), none, 0, 0⟩] false)
          (.cond (.t 15)
           .skip
           (.exit 0)))
         (.seq
          (.block 1
           (.seq
            (.region [⟨(some 18), .mov (.t 3), none, 0, 0⟩,
              ⟨(some 19), .mov (.t 5), none, 0, 0⟩,
              ⟨(some 20), .indexS (.t 18) (.t 19), none, 3, 0⟩,
              ⟨(some 21), .mov (.t 5), none, 0, 0⟩,
              ⟨(some 22), .indexArr 3 1 (.t 4) (.t 21), none, 8, 0⟩,
              ⟨(some 23), .load 1 false (.t 22), none, 24, 0⟩,
              ⟨(some 24), .callF 59 [(.t 20), (.t 23)], none, 63, 0⟩,
              ⟨(some 25), .un .not (.t 24), none, 127, 0⟩] true)
            (.cond (.t 25)
             (.seq
              (.region [⟨(some 2), .mov (.c (.d (.sc (.int .i64 8)))), none, 0, 0⟩] false)
              .ret)
             .skip)))
          (.region [⟨(some 16), .mov (.t 5), none, 0, 0⟩,
            ⟨(some 17), .bin .add (.t 16) (.c (.d (.sc (.int .i64 1)))), none, 0, 0⟩,
            ⟨(some 5), .mov (.t 17), none, 0, 0⟩] false))))))
     (.seq
      (.region [⟨(some 2), .mov (.c (.d (.sc (.int .i64 0)))), none, 0, 0⟩] false)
      .ret))))), false⟩
/-- wreckage/wreckageref07.Check -/
def t16 : AFn := ⟨1, 58, [.t 2],
 (.seq
  (.region [⟨(some 2), .mov (.c (.d (.sc (.int .i64 0)))), none, 0, 0⟩] false)
  (.seq
   (.seq
    (.region [⟨(some 5), .mov (.t 0), none, 0, 0⟩,
      ⟨(some 6), .len (.t 5), none, 0, 0⟩,
      ⟨(some 7), .bin .lss (.t 6) (.c (.d (.sc (.int .i64 1)))), none, 0, 0⟩,
      ⟨(some 8), .mov (.t 7), none, 0, 0⟩,
      ⟨(some 9), .mov (.t 0), (some (8, false)), 0, 0⟩,
      ⟨(some 10), .len (.t 9), (some (8, false)), 0, 0⟩,
      ⟨(some 11), .bin .gtr (.t 10) (.c (.d (.sc (.int .i64 200)))), (some (8, false)), 0, 0⟩,
      ⟨(some 12), .pick (.t 8) (.c (.d (.sc (.bool true)))) (.t 11), none, 0, 0⟩] false)
    (.cond (.t 12)
     (.seq
      (.region [⟨(some 2), .mov (.c (.d (.sc (.int .i64 8)))), none, 0, 0⟩] false)
      .ret)
     .skip))
   (.seq
    (.seq
     (.region [⟨(some 3), .mov (.c (.d (.sc (.int .i64 0)))), none, 0, 0⟩] false)
     (.block 0
      (.loop
       (.seq
        (.seq
         (.region [⟨(some 13), .mov (.t 3), none, 0, 0⟩,
           ⟨(some 14), .mov (.t 0), none, 0, 0⟩,
           ⟨(some 15), .len (.t 14), none, 0, 0⟩,
           ⟨(some 16), .bin .lss (.t 13) (.t 15), none, 0, 0⟩] false)
         (.cond (.t 16)
          .skip
          (.exit 0)))
        (.seq
         (.block 1
          (.seq
           (.region [⟨(some 19), .mov (.t 0), none, 0, 0⟩,
             ⟨(some 20), .mov (.t 3), none, 0, 0⟩,
             ⟨(some 21), .indexAddr 4 (.t 19) (.t 20), none, 0, 0⟩,
             ⟨(some 22), .load 4 true (.t 21), none, 0, 0⟩,
             ⟨(some 4), .alloc [(.d (.sc (.int .u8 0))), (.d (.sc (.int .i64 0))), (.d (.sc (.int .i64 0))), (.d (.sc (.int .i64 0)))], none, 0, 0⟩,
             ⟨none, .store 4 (.t 4) (.t 22), none, 0, 0⟩] false)
           (.seq
            (.region [⟨(some 23), .load 4 true (.t 4), none, 0, 0⟩,
              ⟨(some 24), .callF 41 [(.t 23)], none, 0, 0⟩,
              ⟨(some 25), .bin .neq (.t 24) (.c (.d (.sc (.int .i64 0)))), none, 0, 0⟩,
              ⟨(some 26), .mov (.t 25), none, 0, 0⟩,
              ⟨(some 27), .fieldAddr 0 (.t 4), (some (26, false)), 0, 0⟩,
              ⟨(some 28), .load 1 false (.t 27), (some (26, false)), 0, 0⟩,
              ⟨(some 29), .bin .eql (.t 28) (.c (.d (.sc (.int .u8 22)))), (some (26, false)), 0, 0⟩,
              ⟨(some 30), .mov (.t 29), (some (26, false)), 0, 0⟩,
              ⟨(some 31), .fieldAddr 1 (.t 4), (some (30, true)), 0, 0⟩,
              ⟨(some 32), .load 1 false (.t 31), (some (30, true)), 0, 0⟩,
              ⟨(some 33), .mov (.t 0), (some (30, true)), 0, 0⟩,
              ⟨(some 34), .len (.t 33), (some (30, true)), 0, 0⟩,
              ⟨(some 35), .bin .geq (.t 32) (.t 34), (some (30, true)), 0, 0⟩,
              ⟨(some 36), .pick (.t 30) (.t 35) (.c (.d (.sc (.bool false)))), (some (26, false)), 0, 0⟩,
              ⟨(some 37), .pick (.t 26) (.c (.d (.sc (.bool true)))) (.t 36), none, 0, 0⟩,
              ⟨(some 38), .mov (.t 37), none, 0, 0⟩,
              ⟨(some 39), .fieldAddr 0 (.t 4), (some (38, false)), 0, 0⟩,
              ⟨(some 40), .load 1 false (.t 39), (some (38, false)), 0, 0⟩,
              ⟨(some 41), .bin .eql (.t 40) (.c (.d (.sc (.int .u8 23)))), (some (38, false)), 0, 0⟩,
              ⟨(some 42), .mov (.t 41), (some (38, false)), 0, 0⟩,
              ⟨(some 43), .fieldAddr 2 (.t 4), (some (42, true)), 0, 0⟩,
              ⟨(some 44), .load 1 false (.t 43), (some (42, true)), 0, 0⟩,
              ⟨(some 45), .mov (.t 0), (some (42, true)), 0, 0⟩,
              ⟨(some 46), .len (.t 45), (some (42, true)), 0, 0⟩,
              ⟨(some 47), .bin .geq (.t 44) (.t 46), (some (42, true)), 0, 0⟩,
              ⟨(some 48), .pick (.t 42) (.t 47) (.c (.d (.sc (.bool false)))), (some (38, false)), 0, 0⟩,
              ⟨(some 49), .pick (.t 38) (.c (.d (.sc (.bool true)))) (.t 48), none, 0, 0⟩] false)
            (.cond (.t 49)
             (.seq
              (.region [⟨(some 2), .mov (.c (.d (.sc (.int .i64 8)))), none, 0, 0⟩] false)
              .ret)
             .skip))))
         (.region [⟨(some 17), .mov (.t 3), none, 0, 0⟩,
           ⟨(some 18), .bin .add (.t 17) (.c (.d (.sc (.int .i64 1)))), none, 0, 0⟩,
           ⟨(some 3), .mov (.t 18), none, 0, 0⟩] false))))))
    (.seq
     (.seq
      (.region [⟨(some 50), .mov (.t 0), none, 0, 0⟩,
        ⟨(some 51), .mov (.t 0), none, 0, 0⟩,
        ⟨(some 52), .len (.t 51), none, 0, 0⟩,
        ⟨(some 53), .bin .sub (.t 52) (.c (.d (.sc (.int .i64 1)))), none, 0, 0⟩,
        ⟨(some 54), .indexAddr 4 (.t 50) (.t 53), none, 0, 0⟩,
        ⟨(some 55), .load 4 true (.t 54), none, 0, 0⟩,
        ⟨(some 56), .build [(.d (.sc (.int .u8 0))), (.d (.sc (.int .i64 0))), (.d (.sc (.int .i64 0))), (.d (.sc (.int .i64 0)))] [(0, 1, (.c (.d (.sc (.int .u8 34))))), (1, 1, (.c (.d (.sc (.int .i64 (-1))))))], none, 0, 0⟩,
        ⟨(some 57), .eqA true 4 [(0, 1), (1, 1), (2, 1), (3, 1)] (.t 55) (.t 56), none, 0, 0⟩] false)
      (.cond (.t 57)
       (.seq
        (.region [⟨(some 2), .mov (.c (.d (.sc (.int .i64 8)))), none, 0, 0⟩] false)
        .ret)
       .skip))
     (.seq
      (.region [⟨(some 2), .mov (.c (.d (.sc (.int .i64 0)))), none, 0, 0⟩] false)
      .ret))))), false⟩
/-- wreckage/wreckagelaw07.fit -/
def t20 : AFn := ⟨1, 11, [.t 2],
 (.seq
  (.region [⟨(some 2), .mov (.c (.d (.sc (.bool false)))), none, 0, 0⟩] false)
  (.seq
   (.region [⟨(some 3), .mov (.t 0), none, 0, 0⟩,
     ⟨(some 4), .callF 10 [(.t 3)], none, 0, 0⟩,
     ⟨(some 5), .un .not (.t 4), none, 0, 0⟩,
     ⟨(some 6), .mov (.t 5), none, 0, 0⟩,
     ⟨(some 7), .mov (.t 0), (some (6, true)), 0, 0⟩,
     ⟨(some 8), .callF 16 [(.t 7)], (some (6, true)), 0, 0⟩,
     ⟨(some 9), .bin .eql (.t 8) (.c (.d (.sc (.int .i64 0)))), (some (6, true)), 0, 0⟩,
     ⟨(some 10), .pick (.t 6) (.t 9) (.c (.d (.sc (.bool false)))), none, 0, 0⟩,
     ⟨(some 2), .mov (.t 10), none, 0, 0⟩] false)
   .ret)), false⟩
/-- wreckage/wreckageref06.Touched -/
def t52 : AFn := ⟨1, 64, [.t 2, .t 3],
 (.seq
  (.region [⟨(some 1), .box (.t 0), none, 0, 0⟩,
    ⟨(some 2), .mov (.c (.own [] .full)), none, 0, 0⟩,
    ⟨(some 3), .mov (.c (.own [] .full)), none, 0, 0⟩] false)
  (.seq
   (.region [⟨(some 4), .mov (.c (.own [] .full)), none, 0, 0⟩,
     ⟨(some 5), .mov (.c (.own [] .full)), none, 0, 0⟩] false)
   (.seq
    (.region [⟨(some 9), .fieldAddr 0 (.t 1), none, 0, 0⟩,
      ⟨(some 10), .load 1 false (.t 9), none, 1, 0⟩,
      ⟨(some 11), .callF 57 [(.t 10)], none, 3, 0⟩,
      ⟨(some 12), .load 4 true (.t 1), none, 0, 0⟩,
      ⟨(some 13), .callF 58 [(.t 12)], none, 15, 0⟩,
      ⟨(some 7), .alloc [(.d (.sc (.int .i64 0))), (.d (.sc (.int .i64 0))), (.d (.sc (.int .i64 0)))], none, 0, 0⟩,
      ⟨(some 6), .mov (.t 11), none, 63, 0⟩,
      ⟨none, .store 3 (.t 7) (.t 13), none, 127, 0⟩] true)
    (.seq
     (.seq
      (.region [⟨(some 8), .mov (.c (.d (.sc (.int .i64 0)))), none, 0, 0⟩] false)
      (.block 0
       (.loop
        (.seq
         (.seq
          (.region [⟨(some 14), .mov (.t 8), none, 0, 0⟩,
            ⟨(some 15), .bin .lss (.t 14) (.c (.d (.sc (.int .i64 3)))), none, 0, 0⟩] false)
          (.cond (.t 15)
           .skip
           (.exit 0)))
         (.seq
          (.block 1
           (.seq
            (.seq
             (.region [⟨(some 18), .mov (.t 6), none, 0, 0⟩,
               ⟨(some 19), .mov (.t 8), none, 0, 0⟩,
               ⟨(some 20), .indexS (.t 18) (.t 19), none, 0, 0⟩,
               ⟨(some 21), .bin .eql (.t 20) (.c (.d (.sc (.int .u8 114)))), none, 0, 0⟩,
               ⟨(some 22), .mov (.t 21), none, 0, 0⟩,
               ⟨(some 23), .mov (.t 6), (some (22, false)), 0, 0⟩,
               ⟨(some 24), .mov (.t 8), (some (22, false)), 0, 0⟩,
               ⟨(some 25), .indexS (.t 23) (.t 24), (some (22, false)), 0, 0⟩,
               ⟨(some 26), .bin .eql (.t 25) (.c (.d (.sc (.int .u8 101)))), (some (22, false)), 0, 0⟩,
               ⟨(some 27), .pick (.t 22) (.c (.d (.sc (.bool true)))) (.t 26), none, 0, 0⟩,
               ⟨(some 28), .mov (.t 27), none, 0, 0⟩,
               ⟨(some 29), .mov (.t 8), (some (28, true)), 0, 0⟩,
               ⟨(some 30), .indexArr 3 1 (.t 7) (.t 29), (some (28, true)), 0, 0⟩,
               ⟨(some 31), .load 1 false (.t 30), (some (28, true)), 0, 0⟩,
               ⟨(some 32), .bin .geq (.t 31) (.c (.d (.sc (.int .i64 0)))), (some (28, true)), 0, 0⟩,
               ⟨(some 33), .pick (.t 28) (.t 32) (.c (.d (.sc (.bool false)))), none, 0, 0⟩] false)
             (.cond (.t 33)
              (.region [⟨(some 34), .mov (.t 4), none, 0, 0⟩,
                ⟨(some 35), .mov (.t 8), none, 0, 0⟩,
                ⟨(some 36), .indexArr 3 1 (.t 7) (.t 35), none, 0, 0⟩,
                ⟨(some 37), .load 1 false (.t 36), none, 0, 0⟩,
                ⟨(some 38), .buildSlice 1 1 [(.sc (.int .i64 0))] [(0, (.t 37))], none, 0, 0⟩,
                ⟨(some 39), .append 1 8 (.t 34) (.t 38), none, 0, 0⟩,
                ⟨(some 4), .mov (.t 39), none, 0, 0⟩] false)
              .skip))
            (.seq
             (.region [⟨(some 40), .mov (.t 6), none, 0, 0⟩,
               ⟨(some 41), .mov (.t 8), none, 0, 0⟩,
               ⟨(some 42), .indexS (.t 40) (.t 41), none, 0, 0⟩,
               ⟨(some 43), .bin .eql (.t 42) (.c (.d (.sc (.int .u8 119)))), none, 0, 0⟩,
               ⟨(some 44), .mov (.t 43), none, 0, 0⟩,
               ⟨(some 45), .mov (.t 6), (some (44, false)), 0, 0⟩,
               ⟨(some 46), .mov (.t 8), (some (44, false)), 0, 0⟩,
               ⟨(some 47), .indexS (.t 45) (.t 46), (some (44, false)), 0, 0⟩,
               ⟨(some 48), .bin .eql (.t 47) (.c (.d (.sc (.int .u8 103)))), (some (44, false)), 0, 0⟩,
               ⟨(some 49), .pick (.t 44) (.c (.d (.sc (.bool true)))) (.t 48), none, 0, 0⟩,
               ⟨(some 50), .mov (.t 49), none, 0, 0⟩,
               ⟨(some 51), .mov (.t 8), (some (50, true)), 0, 0⟩,
               ⟨(some 52), .indexArr 3 1 (.t 7) (.t 51), (some (50, true)), 0, 0⟩,
               ⟨(some 53), .load 1 false (.t 52), (some (50, true)), 0, 0⟩,
               ⟨(some 54), .bin .geq (.t 53) (.c (.d (.sc (.int .i64 0)))), (some (50, true)), 0, 0⟩,
               ⟨(some 55), .pick (.t 50) (.t 54) (.c (.d (.sc (.bool false)))), none, 0, 0⟩] false)
             (.cond (.t 55)
              (.region [⟨(some 56), .mov (.t 5), none, 0, 0⟩,
                ⟨(some 57), .mov (.t 8), none, 0, 0⟩,
                ⟨(some 58), .indexArr 3 1 (.t 7) (.t 57), none, 0, 0⟩,
                ⟨(some 59), .load 1 false (.t 58), none, 0, 0⟩,
                ⟨(some 60), .buildSlice 1 1 [(.sc (.int .i64 0))] [(0, (.t 59))], none, 0, 0⟩,
                ⟨(some 61), .append 1 8 (.t 56) (.t 60), none, 0, 0⟩,
                ⟨(some 5), .mov (.t 61), none, 0, 0⟩] false)
              .skip))))
          (.region [⟨(some 16), .mov (.t 8), none, 0, 0⟩,
            ⟨(some 17), .bin .add (.t 16) (.c (.d (.sc (.int .i64 1)))), none, 0, 0⟩,
            ⟨(some 8), .mov (.t 17), none, 0, 0⟩] false))))))
     (.seq
      (.region [⟨(some 62), .mov (.t 4), none, 0, 0⟩,
        ⟨(some 63), .mov (.t 5), none, 0, 0⟩,
        ⟨(some 2), .mov (.t 62), none, 0, 0⟩,
        ⟨(some 3), .mov (.t 63), none, 0, 0⟩] false)
      .ret))))), false⟩
/-- wreckage/wreckageref07.Used -/
def t42 : AFn := ⟨1, 40, [.t 2],
 (.seq
  (.region [⟨(some 1), .box (.t 0), none, 0, 0⟩,
    ⟨(some 2), .mov (.c (.d (.sc (.int .u64 0)))), none, 0, 0⟩] false)
  (.seq
   (.region [⟨(some 9), .load 4 true (.t 1), none, 0, 0⟩,
     ⟨(some 10), .call 52 [(.t 9)], none, 0, 0⟩,
     ⟨(some 8), .mov (.t 10), none, 0, 0⟩,
     ⟨(some 11), .extract (.t 8) 0, none, 0, 0⟩,
     ⟨(some 12), .extract (.t 8) 1, none, 0, 0⟩,
     ⟨(some 3), .mov (.t 11), none, 0, 0⟩,
     ⟨(some 4), .mov (.t 12), none, 0, 0⟩] false)
   (.seq
    (.region [⟨(some 5), .mov (.c (.d (.sc (.int .u64 0)))), none, 0, 0⟩] false)
    (.seq
     (.seq
      (.region [⟨(some 6), .mov (.c (.d (.sc (.int .i64 0)))), none, 0, 0⟩] false)
      (.block 0
       (.loop
        (.seq
         (.seq
          (.region [⟨(some 13), .mov (.t 6), none, 0, 0⟩,
            ⟨(some 14), .mov (.t 3), none, 0, 0⟩,
            ⟨(some 15), .len (.t 14), none, 0, 0⟩,
            ⟨(some 16), .bin .lss (.t 13) (.t 15), none, 0, 0⟩] false)
          (.cond (.t 16)
           .skip
           (.exit 0)))
         (.seq
          (.block 1
           (.region [⟨(some 19), .mov (.t 5), none, 0, 0⟩,
             ⟨(some 20), .mov (.t 3), none, 0, 0⟩,
             ⟨(some 21), .mov (.t 6), none, 0, 0⟩,
             ⟨(some 22), .indexAddr 1 (.t 20) (.t 21), none, 0, 0⟩,
             ⟨(some 23), .load 1 false (.t 22), none, 0, 0⟩,
             ⟨(some 24), .bin .shl (.c (.d (.sc (.int .u64 1)))) (.t 23), none, 0, 0⟩,
             ⟨(some 25), .bin .or (.t 19) (.t 24), none, 0, 0⟩,
             ⟨(some 5), .mov (.t 25), none, 0, 0⟩] false))
          (.region [⟨(some 17), .mov (.t 6), none, 0, 0⟩,
            ⟨(some 18), .bin .add (.t 17) (.c (.d (.sc (.int .i64 1)))), none, 0, 0⟩,
            ⟨(some 6), .mov (.t 18), none, 0, 0⟩] false))))))
     (.seq
      (.seq
       (.region [⟨(some 7), .mov (.c (.d (.sc (.int .i64 0)))), none, 0, 0⟩] false)
       (.block 2
        (.loop
         (.seq
          (.seq
           (.region [⟨(some 26), .mov (.t 7), none, 0, 0⟩,
             ⟨(some 27), .mov (.t 4), none, 0, 0⟩,
             ⟨(some 28), .len (.t 27), none, 0, 0⟩,
             ⟨(some 29), .bin .lss (.t 26) (.t 28), none, 0, 0⟩] false)
           (.cond (.t 29)
            .skip
            (.exit 2)))
          (.seq
           (.block 3
            (.region [⟨(some 32), .mov (.t 5), none, 0, 0⟩,
              ⟨(some 33), .mov (.t 4), none, 0, 0⟩,
              ⟨(some 34), .mov (.t 7), none, 0, 0⟩,
              ⟨(some 35), .indexAddr 1 (.t 33) (.t 34), none, 0, 0⟩,
              ⟨(some 36), .load 1 false (.t 35), none, 0, 0⟩,
              ⟨(some 37), .bin .shl (.c (.d (.sc (.int .u64 1)))) (.t 36), none, 0, 0⟩,
              ⟨(some 38), .bin .or (.t 32) (.t 37), none, 0, 0⟩,
              ⟨(some 5), .mov (.t 38), none, 0, 0⟩] false))
           (.region [⟨(some 30), .mov (.t 7), none, 0, 0⟩,
             ⟨(some 31), .bin .add (.t 30) (.c (.d (.sc (.int .i64 1)))), none, 0, 0⟩,
             ⟨(some 7), .mov (.t 31), none, 0, 0⟩] false))))))
      (.seq
       (.region [⟨(some 39), .mov (.t 5), none, 0, 0⟩,
         ⟨(some 2), .mov (.t 39), none, 0, 0⟩] false)
       .ret)))))), false⟩
/-- wreckage/wreckageref07.Least -/
def t25 : AFn := ⟨1, 6, [.t 2],
 (.seq
  (.region [⟨(some 2), .mov (.c (.d (.sc (.int .u64 0)))), none, 0, 0⟩] false)
  (.seq
   (.region [⟨(some 3), .mov (.t 0), none, 0, 0⟩,
     ⟨(some 4), .bin .shl (.c (.d (.sc (.int .u64 1)))) (.t 3), none, 0, 0⟩,
     ⟨(some 5), .bin .sub (.t 4) (.c (.d (.sc (.int .u64 1)))), none, 0, 0⟩,
     ⟨(some 2), .mov (.t 5), none, 0, 0⟩] false)
   .ret)), false⟩
/-- wreckage/wreckageref07.Fits -/
def t21 : AFn := ⟨3, 38, [.t 6],
 (.seq
  (.region [⟨(some 6), .mov (.c (.d (.sc (.int .i64 0)))), none, 0, 0⟩] false)
  (.seq
   (.seq
    (.region [⟨(some 8), .mov (.t 2), none, 0, 0⟩,
      ⟨(some 9), .bin .lss (.t 8) (.c (.d (.sc (.int .i64 0)))), none, 0, 0⟩,
      ⟨(some 10), .mov (.t 9), none, 0, 0⟩,
      ⟨(some 11), .mov (.t 2), (some (10, false)), 0, 0⟩,
      ⟨(some 12), .bin .gtr (.t 11) (.c (.d (.sc (.int .i64 16)))), (some (10, false)), 0, 0⟩,
      ⟨(some 13), .pick (.t 10) (.c (.d (.sc (.bool true)))) (.t 12), none, 0, 0⟩,
      ⟨(some 14), .mov (.t 13), none, 0, 0⟩,
      ⟨(some 15), .mov (.t 1), (some (14, false)), 0, 0⟩,
      ⟨(some 16), .bin .lss (.t 15) (.c (.d (.sc (.int .i64 0)))), (some (14, false)), 0, 0⟩,
      ⟨(some 17), .pick (.t 14) (.c (.d (.sc (.bool true)))) (.t 16), none, 0, 0⟩,
      ⟨(some 18), .mov (.t 17), none, 0, 0⟩,
      ⟨(some 19), .mov (.t 1), (some (18, false)), 0, 0⟩,
      ⟨(some 20), .mov (.t 2), (some (18, false)), 0, 0⟩,
      ⟨(some 21), .bin .gtr (.t 19) (.t 20), (some (18, false)), 0, 0⟩,
      ⟨(some 22), .pick (.t 18) (.c (.d (.sc (.bool true)))) (.t 21), none, 0, 0⟩] false)
    (.cond (.t 22)
     (.seq
      (.region [⟨(some 6), .mov (.c (.d (.sc (.int .i64 2)))), none, 0, 0⟩] false)
      .ret)
     .skip))
   (.seq
    (.seq
     (.region [⟨(some 7), .mov (.c (.d (.sc (.int .i64 0)))), none, 0, 0⟩] false)
     (.block 0
      (.loop
       (.seq
        (.seq
         (.region [⟨(some 23), .mov (.t 7), none, 0, 0⟩,
           ⟨(some 24), .mov (.t 0), none, 0, 0⟩,
           ⟨(some 25), .len (.t 24), none, 0, 0⟩,
           ⟨(some 26), .bin .lss (.t 23) (.t 25), none, 0, 0⟩] false)
         (.cond (.t 26)
          .skip
          (.exit 0)))
        (.seq
         (.block 1
          (.seq
           (.region [⟨(some 29), .mov (.t 0), none, 0, 0⟩,
             ⟨(some 30), .mov (.t 7), none, 0, 0⟩,
             ⟨(some 31), .indexAddr 4 (.t 29) (.t 30), none, 0, 0⟩,
             ⟨(some 32), .load 4 true (.t 31), none, 0, 0⟩,
             ⟨(some 33), .callF 42 [(.t 32)], none, 0, 0⟩,
             ⟨(some 34), .mov (.t 2), none, 0, 0⟩,
             ⟨(some 35), .callF 25 [(.t 34)], none, 0, 0⟩,
             ⟨(some 36), .bin .andNot (.t 33) (.t 35), none, 0, 0⟩,
             ⟨(some 37), .bin .neq (.t 36) (.c (.d (.sc (.int .u64 0)))), none, 0, 0⟩] false)
           (.cond (.t 37)
            (.seq
             (.region [⟨(some 6), .mov (.c (.d (.sc (.int .i64 16)))), none, 0, 0⟩] false)
             .ret)
            .skip)))
         (.region [⟨(some 27), .mov (.t 7), none, 0, 0⟩,
           ⟨(some 28), .bin .add (.t 27) (.c (.d (.sc (.int .i64 1)))), none, 0, 0⟩,
           ⟨(some 7), .mov (.t 28), none, 0, 0⟩] false))))))
    (.seq
     (.region [⟨(some 6), .mov (.c (.d (.sc (.int .i64 0)))), none, 0, 0⟩] false)
     .ret)))), false⟩
/-- wreckage/wreckageref07.Added -/
def t32 : AFn := ⟨2, 29, [.t 4],
 (.seq
  (.region [⟨(some 4), .mov (.c (.d (.sc (.bool false)))), none, 0, 0⟩] false)
  (.seq
   (.seq
    (.region [⟨(some 6), .mov (.t 1), none, 0, 0⟩,
      ⟨(some 7), .len (.t 6), none, 0, 0⟩,
      ⟨(some 8), .mov (.t 0), none, 0, 0⟩,
      ⟨(some 9), .len (.t 8), none, 0, 0⟩,
      ⟨(some 10), .bin .neq (.t 7) (.t 9), none, 0, 0⟩] false)
    (.cond (.t 10)
     (.seq
      (.region [⟨(some 4), .mov (.c (.d (.sc (.bool false)))), none, 0, 0⟩] false)
      .ret)
     .skip))
   (.seq
    (.seq
     (.region [⟨(some 5), .mov (.c (.d (.sc (.int .i64 0)))), none, 0, 0⟩] false)
     (.block 0
      (.loop
       (.seq
        (.seq
         (.region [⟨(some 11), .mov (.t 5), none, 0, 0⟩,
           ⟨(some 12), .mov (.t 1), none, 0, 0⟩,
           ⟨(some 13), .len (.t 12), none, 0, 0⟩,
           ⟨(some 14), .bin .lss (.t 11) (.t 13), none, 0, 0⟩] false)
         (.cond (.t 14)
          .skip
          (.exit 0)))
        (.seq
         (.block 1
          (.seq
           (.region [⟨(some 17), .mov (.t 1), none, 0, 0⟩,
             ⟨(some 18), .mov (.t 5), none, 0, 0⟩,
             ⟨(some 19), .indexAddr 1 (.t 17) (.t 18), none, 0, 0⟩,
             ⟨(some 20), .load 1 false (.t 19), none, 0, 0⟩,
             ⟨(some 21), .bin .lss (.t 20) (.c (.d (.sc (.int .i64 (-4096))))), none, 0, 0⟩,
             ⟨(some 22), .mov (.t 21), none, 0, 0⟩,
             ⟨(some 23), .mov (.t 1), (some (22, false)), 0, 0⟩,
             ⟨(some 24), .mov (.t 5), (some (22, false)), 0, 0⟩,
             ⟨(some 25), .indexAddr 1 (.t 23) (.t 24), (some (22, false)), 0, 0⟩,
             ⟨(some 26), .load 1 false (.t 25), (some (22, false)), 0, 0⟩,
             ⟨(some 27), .bin .gtr (.t 26) (.c (.d (.sc (.int .i64 4096)))), (some (22, false)), 0, 0⟩,
             ⟨(some 28), .pick (.t 22) (.c (.d (.sc (.bool true)))) (.t 27), none, 0, 0⟩] false)
           (.cond (.t 28)
            (.seq
             (.region [⟨(some 4), .mov (.c (.d (.sc (.bool false)))), none, 0, 0⟩] false)
             .ret)
            .skip)))
         (.region [⟨(some 15), .mov (.t 5), none, 0, 0⟩,
           ⟨(some 16), .bin .add (.t 15) (.c (.d (.sc (.int .i64 1)))), none, 0, 0⟩,
           ⟨(some 5), .mov (.t 16), none, 0, 0⟩] false))))))
    (.seq
     (.region [⟨(some 4), .mov (.c (.d (.sc (.bool true)))), none, 0, 0⟩] false)
     .ret)))), false⟩
/-- wreckage/wreckagelaw07.end -/
def t34 : AFn := ⟨0, 2, [.cell 0 4 true],
 (.seq
  (.region [⟨(some 0), .alloc [(.d (.sc (.int .u8 0))), (.d (.sc (.int .i64 0))), (.d (.sc (.int .i64 0))), (.d (.sc (.int .i64 0)))], none, 0, 0⟩] false)
  (.seq
   (.region [⟨(some 1), .build [(.d (.sc (.int .u8 0))), (.d (.sc (.int .i64 0))), (.d (.sc (.int .i64 0))), (.d (.sc (.int .i64 0)))] [(0, 1, (.c (.d (.sc (.int .u8 34))))), (1, 1, (.c (.d (.sc (.int .i64 (-1))))))], none, 0, 0⟩,
     ⟨none, .store 4 (.t 0) (.t 1), none, 0, 0⟩] false)
   .ret)), false⟩
/-- wreckage/wreckagelaw07.given -/
def t43 : AFn := ⟨1, 10, [.t 2],
 (.seq
  (.region [⟨(some 1), .box (.t 0), none, 0, 0⟩,
    ⟨(some 2), .mov (.c (.own [] .full)), none, 0, 0⟩] false)
  (.seq
   (.region [⟨(some 3), .build [(.d (.sc (.int .u8 0))), (.d (.sc (.int .i64 0))), (.d (.sc (.int .i64 0))), (.d (.sc (.int .i64 0)))] [(0, 1, (.c (.d (.sc (.int .u8 23))))), (2, 1, (.c (.d (.sc (.int .i64 3)))))], none, 0, 0⟩,
     ⟨(some 4), .build [(.d (.sc (.int .u8 0))), (.d (.sc (.int .i64 0))), (.d (.sc (.int .i64 0))), (.d (.sc (.int .i64 0)))] [(0, 1, (.c (.d (.sc (.int .u8 1))))), (1, 1, (.c (.d (.sc (.int .i64 1))))), (2, 1, (.c (.d (.sc (.int .i64 7)))))], none, 0, 0⟩,
     ⟨(some 5), .build [(.d (.sc (.int .u8 0))), (.d (.sc (.int .i64 0))), (.d (.sc (.int .i64 0))), (.d (.sc (.int .i64 0)))] [(0, 1, (.c (.d (.sc (.int .u8 22))))), (1, 1, (.c (.d (.sc (.int .i64 4)))))], none, 0, 0⟩,
     ⟨(some 6), .load 4 true (.t 1), none, 0, 0⟩,
     ⟨(some 7), .build [(.d (.sc (.int .u8 0))), (.d (.sc (.int .i64 0))), (.d (.sc (.int .i64 0))), (.d (.sc (.int .i64 0)))] [(0, 1, (.c (.d (.sc (.int .u8 5))))), (1, 1, (.c (.d (.sc (.int .i64 2))))), (2, 1, (.c (.d (.sc (.int .i64 1)))))], none, 0, 0⟩,
     ⟨(some 8), .callF 34 [], none, 0, 0⟩,
     ⟨(some 9), .buildSlice 4 6 [(.sc (.int .u8 0)), (.sc (.int .i64 0)), (.sc (.int .i64 0)), (.sc (.int .i64 0))] [(0, (.t 3)), (1, (.t 4)), (2, (.t 5)), (3, (.t 6)), (4, (.t 7)), (5, (.t 8))], none, 63, 0⟩,
     ⟨(some 2), .mov (.t 9), none, 127, 0⟩] true)
   .ret)), false⟩
/-- wreckage/ops.shape$1 -/
def t63 : AFn := ⟨3, 7, [],
 (.region [⟨(some 4), .sliceB 3 4 (.t 1), none, 0, 0⟩,
   ⟨(some 5), .mov (.t 0), none, 0, 0⟩,
   ⟨(some 6), .copy 4 (.t 4) (.t 5), none, 0, 0⟩,
   ⟨none, .store 1 (.t 2) (.t 6), none, 0, 0⟩] false), true⟩
/-- wreckage/ops.write -/
def t64 : AFn := ⟨0, 2, [.cell 0 4 true],
 (.seq
  (.region [⟨(some 0), .alloc [(.d (.sc (.int .i64 0))), (.d (.sc (.int .i64 0))), (.d (.sc (.bool false))), (.d (.sc (.bool false)))], none, 0, 0⟩] false)
  (.seq
   (.region [⟨(some 1), .build [(.d (.sc (.int .i64 0))), (.d (.sc (.int .i64 0))), (.d (.sc (.bool false))), (.d (.sc (.bool false)))] [(0, 1, (.c (.d (.sc (.int .i64 0))))), (1, 1, (.c (.d (.sc (.int .i64 15))))), (2, 1, (.c (.d (.sc (.bool false))))), (3, 1, (.c (.d (.sc (.bool true)))))], none, 0, 0⟩,
     ⟨none, .store 4 (.t 0) (.t 1), none, 0, 0⟩] false)
   .ret)), false⟩
/-- wreckage/ops.whole -/
def t65 : AFn := ⟨0, 2, [.cell 0 4 true],
 (.seq
  (.region [⟨(some 0), .alloc [(.d (.sc (.int .i64 0))), (.d (.sc (.int .i64 0))), (.d (.sc (.bool false))), (.d (.sc (.bool false)))], none, 0, 0⟩] false)
  (.seq
   (.region [⟨(some 1), .build [(.d (.sc (.int .i64 0))), (.d (.sc (.int .i64 0))), (.d (.sc (.bool false))), (.d (.sc (.bool false)))] [(0, 1, (.c (.d (.sc (.int .i64 (-9223372036854775808)))))), (1, 1, (.c (.d (.sc (.int .i64 9223372036854775807))))), (2, 1, (.c (.d (.sc (.bool false))))), (3, 1, (.c (.d (.sc (.bool false)))))], none, 0, 0⟩,
     ⟨none, .store 4 (.t 0) (.t 1), none, 0, 0⟩] false)
   .ret)), false⟩
/-- wreckage/ops.below -/
def t66 : AFn := ⟨1, 6, [.cell 2 4 true],
 (.seq
  (.region [⟨(some 2), .alloc [(.d (.sc (.int .i64 0))), (.d (.sc (.int .i64 0))), (.d (.sc (.bool false))), (.d (.sc (.bool false)))], none, 0, 0⟩] false)
  (.seq
   (.region [⟨(some 3), .mov (.t 0), none, 0, 0⟩,
     ⟨(some 4), .bin .sub (.t 3) (.c (.d (.sc (.int .i64 1)))), none, 0, 0⟩,
     ⟨(some 5), .build [(.d (.sc (.int .i64 0))), (.d (.sc (.int .i64 0))), (.d (.sc (.bool false))), (.d (.sc (.bool false)))] [(0, 1, (.c (.d (.sc (.int .i64 0))))), (1, 1, (.t 4)), (2, 1, (.c (.d (.sc (.bool false))))), (3, 1, (.c (.d (.sc (.bool false)))))], none, 0, 0⟩,
     ⟨none, .store 4 (.t 2) (.t 5), none, 0, 0⟩] false)
   .ret)), false⟩
/-- wreckage/ops.read -/
def t67 : AFn := ⟨0, 2, [.cell 0 4 true],
 (.seq
  (.region [⟨(some 0), .alloc [(.d (.sc (.int .i64 0))), (.d (.sc (.int .i64 0))), (.d (.sc (.bool false))), (.d (.sc (.bool false)))], none, 0, 0⟩] false)
  (.seq
   (.region [⟨(some 1), .build [(.d (.sc (.int .i64 0))), (.d (.sc (.int .i64 0))), (.d (.sc (.bool false))), (.d (.sc (.bool false)))] [(0, 1, (.c (.d (.sc (.int .i64 0))))), (1, 1, (.c (.d (.sc (.int .i64 15))))), (2, 1, (.c (.d (.sc (.bool true))))), (3, 1, (.c (.d (.sc (.bool false)))))], none, 0, 0⟩,
     ⟨none, .store 4 (.t 0) (.t 1), none, 0, 0⟩] false)
   .ret)), false⟩
/-- wreckage/ops.shape -/
def t55 : AFn := ⟨1, 147, [.cell 2 12 true, .cell 3 1 false],
 (.seq
  (.region [⟨(some 2), .alloc [(.d (.sc (.int .i64 0))), (.d (.sc (.int .i64 0))), (.d (.sc (.bool false))), (.d (.sc (.bool false))), (.d (.sc (.int .i64 0))), (.d (.sc (.int .i64 0))), (.d (.sc (.bool false))), (.d (.sc (.bool false))), (.d (.sc (.int .i64 0))), (.d (.sc (.int .i64 0))), (.d (.sc (.bool false))), (.d (.sc (.bool false)))], none, 0, 0⟩,
    ⟨(some 3), .alloc [(.d (.sc (.int .i64 0)))], none, 0, 0⟩] false)
  (.seq
   (.region [⟨(some 5), .makeFunc 63 [(.t 2), (.t 3)], none, 0, 0⟩,
     ⟨(some 4), .mov (.t 5), none, 0, 0⟩] false)
   (.seq
    (.seq
     (.region [⟨(some 6), .mov (.t 0), none, 0, 0⟩] false)
     (.block 0
      (.seq
       (.block 19
        (.seq
         (.block 18
          (.seq
           (.block 17
            (.seq
             (.block 16
              (.seq
               (.block 15
                (.seq
                 (.block 14
                  (.seq
                   (.block 13
                    (.seq
                     (.block 12
                      (.seq
                       (.block 11
                        (.seq
                         (.block 10
                          (.seq
                           (.block 9
                            (.seq
                             (.block 8
                              (.seq
                               (.block 7
                                (.seq
                                 (.block 6
                                  (.seq
                                   (.block 5
                                    (.seq
                                     (.block 4
                                      (.seq
                                       (.block 3
                                        (.seq
                                         (.block 2
                                          (.seq
                                           (.block 1
                                            (.seq
                                             (.seq
                                              (.seq
                                               (.seq
                                                (.region [⟨(some 8), .bin .eql (.t 6) (.c (.d (.sc (.int .u8 30)))), none, 0, 0⟩,
                                                  ⟨(some 7), .mov (.t 8), none, 0, 0⟩] false)
                                                (.cond (.t 7)
                                                 .skip
                                                 (.region [⟨(some 9), .bin .eql (.t 6) (.c (.d (.sc (.int .u8 31)))), none, 0, 0⟩,
                                                   ⟨(some 7), .mov (.t 9), none, 0, 0⟩] false)))
                                               (.cond (.t 7)
                                                (.exit 1)
                                                .skip))
                                              (.seq
                                               (.seq
                                                (.region [⟨(some 11), .bin .eql (.t 6) (.c (.d (.sc (.int .u8 1)))), none, 0, 0⟩,
                                                  ⟨(some 10), .mov (.t 11), none, 0, 0⟩] false)
                                                (.cond (.t 10)
                                                 (.exit 2)
                                                 .skip))
                                               (.seq
                                                (.seq
                                                 (.region [⟨(some 13), .bin .eql (.t 6) (.c (.d (.sc (.int .u8 2)))), none, 0, 0⟩,
                                                   ⟨(some 12), .mov (.t 13), none, 0, 0⟩] false)
                                                 (.cond (.t 12)
                                                  (.exit 3)
                                                  .skip))
                                                (.seq
                                                 (.seq
                                                  (.region [⟨(some 15), .bin .eql (.t 6) (.c (.d (.sc (.int .u8 3)))), none, 0, 0⟩,
                                                    ⟨(some 14), .mov (.t 15), none, 0, 0⟩] false)
                                                  (.cond (.t 14)
                                                   (.exit 4)
                                                   .skip))
                                                 (.seq
                                                  (.seq
                                                   (.seq
                                                    (.region [⟨(some 17), .bin .eql (.t 6) (.c (.d (.sc (.int .u8 4)))), none, 0, 0⟩,
                                                      ⟨(some 16), .mov (.t 17), none, 0, 0⟩] false)
                                                    (.cond (.t 16)
                                                     .skip
                                                     (.region [⟨(some 18), .bin .eql (.t 6) (.c (.d (.sc (.int .u8 15)))), none, 0, 0⟩,
                                                       ⟨(some 16), .mov (.t 18), none, 0, 0⟩] false)))
                                                   (.cond (.t 16)
                                                    (.exit 5)
                                                    .skip))
                                                  (.seq
                                                   (.seq
                                                    (.seq
                                                     (.region [⟨(some 20), .bin .eql (.t 6) (.c (.d (.sc (.int .u8 6)))), none, 0, 0⟩,
                                                       ⟨(some 19), .mov (.t 20), none, 0, 0⟩] false)
                                                     (.cond (.t 19)
                                                      .skip
                                                      (.seq
                                                       (.region [⟨(some 21), .bin .eql (.t 6) (.c (.d (.sc (.int .u8 7)))), none, 0, 0⟩,
                                                         ⟨(some 19), .mov (.t 21), none, 0, 0⟩] false)
                                                       (.cond (.t 19)
                                                        .skip
                                                        (.seq
                                                         (.region [⟨(some 22), .bin .eql (.t 6) (.c (.d (.sc (.int .u8 8)))), none, 0, 0⟩,
                                                           ⟨(some 19), .mov (.t 22), none, 0, 0⟩] false)
                                                         (.cond (.t 19)
                                                          .skip
                                                          (.seq
                                                           (.region [⟨(some 23), .bin .eql (.t 6) (.c (.d (.sc (.int .u8 9)))), none, 0, 0⟩,
                                                             ⟨(some 19), .mov (.t 23), none, 0, 0⟩] false)
                                                           (.cond (.t 19)
                                                            .skip
                                                            (.seq
                                                             (.region [⟨(some 24), .bin .eql (.t 6) (.c (.d (.sc (.int .u8 10)))), none, 0, 0⟩,
                                                               ⟨(some 19), .mov (.t 24), none, 0, 0⟩] false)
                                                             (.cond (.t 19)
                                                              .skip
                                                              (.seq
                                                               (.region [⟨(some 25), .bin .eql (.t 6) (.c (.d (.sc (.int .u8 11)))), none, 0, 0⟩,
                                                                 ⟨(some 19), .mov (.t 25), none, 0, 0⟩] false)
                                                               (.cond (.t 19)
                                                                .skip
                                                                (.region [⟨(some 26), .bin .eql (.t 6) (.c (.d (.sc (.int .u8 19)))), none, 0, 0⟩,
                                                                  ⟨(some 19), .mov (.t 26), none, 0, 0⟩] false)))))))))))))
                                                    (.cond (.t 19)
                                                     (.exit 6)
                                                     .skip))
                                                   (.seq
                                                    (.seq
                                                     (.seq
                                                      (.region [⟨(some 28), .bin .eql (.t 6) (.c (.d (.sc (.int .u8 5)))), none, 0, 0⟩,
                                                        ⟨(some 27), .mov (.t 28), none, 0, 0⟩] false)
                                                      (.cond (.t 27)
                                                       .skip
                                                       (.seq
                                                        (.region [⟨(some 29), .bin .eql (.t 6) (.c (.d (.sc (.int .u8 12)))), none, 0, 0⟩,
                                                          ⟨(some 27), .mov (.t 29), none, 0, 0⟩] false)
                                                        (.cond (.t 27)
                                                         .skip
                                                         (.seq
                                                          (.region [⟨(some 30), .bin .eql (.t 6) (.c (.d (.sc (.int .u8 16)))), none, 0, 0⟩,
                                                            ⟨(some 27), .mov (.t 30), none, 0, 0⟩] false)
                                                          (.cond (.t 27)
                                                           .skip
                                                           (.seq
                                                            (.region [⟨(some 31), .bin .eql (.t 6) (.c (.d (.sc (.int .u8 18)))), none, 0, 0⟩,
                                                              ⟨(some 27), .mov (.t 31), none, 0, 0⟩] false)
                                                            (.cond (.t 27)
                                                             .skip
                                                             (.seq
                                                              (.region [⟨(some 32), .bin .eql (.t 6) (.c (.d (.sc (.int .u8 21)))), none, 0, 0⟩,
                                                                ⟨(some 27), .mov (.t 32), none, 0, 0⟩] false)
                                                              (.cond (.t 27)
                                                               .skip
                                                               (.region [⟨(some 33), .bin .eql (.t 6) (.c (.d (.sc (.int .u8 33)))), none, 0, 0⟩,
                                                                 ⟨(some 27), .mov (.t 33), none, 0, 0⟩] false)))))))))))
                                                     (.cond (.t 27)
                                                      (.exit 7)
                                                      .skip))
                                                    (.seq
                                                     (.seq
                                                      (.region [⟨(some 35), .bin .eql (.t 6) (.c (.d (.sc (.int .u8 13)))), none, 0, 0⟩,
                                                        ⟨(some 34), .mov (.t 35), none, 0, 0⟩] false)
                                                      (.cond (.t 34)
                                                       (.exit 8)
                                                       .skip))
                                                     (.seq
                                                      (.seq
                                                       (.region [⟨(some 37), .bin .eql (.t 6) (.c (.d (.sc (.int .u8 14)))), none, 0, 0⟩,
                                                         ⟨(some 36), .mov (.t 37), none, 0, 0⟩] false)
                                                       (.cond (.t 36)
                                                        (.exit 9)
                                                        .skip))
                                                      (.seq
                                                       (.seq
                                                        (.region [⟨(some 39), .bin .eql (.t 6) (.c (.d (.sc (.int .u8 20)))), none, 0, 0⟩,
                                                          ⟨(some 38), .mov (.t 39), none, 0, 0⟩] false)
                                                        (.cond (.t 38)
                                                         (.exit 10)
                                                         .skip))
                                                       (.seq
                                                        (.seq
                                                         (.region [⟨(some 41), .bin .eql (.t 6) (.c (.d (.sc (.int .u8 17)))), none, 0, 0⟩,
                                                           ⟨(some 40), .mov (.t 41), none, 0, 0⟩] false)
                                                         (.cond (.t 40)
                                                          (.exit 11)
                                                          .skip))
                                                        (.seq
                                                         (.seq
                                                          (.region [⟨(some 43), .bin .eql (.t 6) (.c (.d (.sc (.int .u8 22)))), none, 0, 0⟩,
                                                            ⟨(some 42), .mov (.t 43), none, 0, 0⟩] false)
                                                          (.cond (.t 42)
                                                           (.exit 12)
                                                           .skip))
                                                         (.seq
                                                          (.seq
                                                           (.region [⟨(some 45), .bin .eql (.t 6) (.c (.d (.sc (.int .u8 23)))), none, 0, 0⟩,
                                                             ⟨(some 44), .mov (.t 45), none, 0, 0⟩] false)
                                                           (.cond (.t 44)
                                                            (.exit 13)
                                                            .skip))
                                                          (.seq
                                                           (.seq
                                                            (.seq
                                                             (.region [⟨(some 47), .bin .eql (.t 6) (.c (.d (.sc (.int .u8 24)))), none, 0, 0⟩,
                                                               ⟨(some 46), .mov (.t 47), none, 0, 0⟩] false)
                                                             (.cond (.t 46)
                                                              .skip
                                                              (.seq
                                                               (.region [⟨(some 48), .bin .eql (.t 6) (.c (.d (.sc (.int .u8 28)))), none, 0, 0⟩,
                                                                 ⟨(some 46), .mov (.t 48), none, 0, 0⟩] false)
                                                               (.cond (.t 46)
                                                                .skip
                                                                (.region [⟨(some 49), .bin .eql (.t 6) (.c (.d (.sc (.int .u8 32)))), none, 0, 0⟩,
                                                                  ⟨(some 46), .mov (.t 49), none, 0, 0⟩] false)))))
                                                            (.cond (.t 46)
                                                             (.exit 14)
                                                             .skip))
                                                           (.seq
                                                            (.seq
                                                             (.region [⟨(some 51), .bin .eql (.t 6) (.c (.d (.sc (.int .u8 25)))), none, 0, 0⟩,
                                                               ⟨(some 50), .mov (.t 51), none, 0, 0⟩] false)
                                                             (.cond (.t 50)
                                                              (.exit 15)
                                                              .skip))
                                                            (.seq
                                                             (.seq
                                                              (.seq
                                                               (.region [⟨(some 53), .bin .eql (.t 6) (.c (.d (.sc (.int .u8 26)))), none, 0, 0⟩,
                                                                 ⟨(some 52), .mov (.t 53), none, 0, 0⟩] false)
                                                               (.cond (.t 52)
                                                                .skip
                                                                (.region [⟨(some 54), .bin .eql (.t 6) (.c (.d (.sc (.int .u8 27)))), none, 0, 0⟩,
                                                                  ⟨(some 52), .mov (.t 54), none, 0, 0⟩] false)))
                                                              (.cond (.t 52)
                                                               (.exit 16)
                                                               .skip))
                                                             (.seq
                                                              (.seq
                                                               (.region [⟨(some 56), .bin .eql (.t 6) (.c (.d (.sc (.int .u8 29)))), none, 0, 0⟩,
                                                                 ⟨(some 55), .mov (.t 56), none, 0, 0⟩] false)
                                                               (.cond (.t 55)
                                                                (.exit 17)
                                                                .skip))
                                                              (.seq
                                                               (.region [⟨(some 58), .bin .eql (.t 6) (.c (.d (.sc (.int .u8 34)))), none, 0, 0⟩,
                                                                 ⟨(some 57), .mov (.t 58), none, 0, 0⟩] false)
                                                               (.cond (.t 57)
                                                                (.exit 18)
                                                                .skip)))))))))))))))))))
                                             (.exit 19)))
                                           (.exit 0)))
                                         (.seq
                                          (.region [⟨(some 59), .mov (.t 4), none, 0, 0⟩,
                                            ⟨(some 60), .callF 64 [], none, 0, 0⟩,
                                            ⟨(some 61), .callF 65 [], none, 0, 0⟩,
                                            ⟨(some 62), .buildSlice 4 2 [(.sc (.int .i64 0)), (.sc (.int .i64 0)), (.sc (.bool false)), (.sc (.bool false))] [(0, (.t 60)), (1, (.t 61))], none, 0, 0⟩,
                                            ⟨(some 63), .callv (.t 59) [(.t 62)], none, 0, 0⟩] false)
                                          (.exit 0))))
                                       (.seq
                                        (.region [⟨(some 64), .mov (.t 4), none, 0, 0⟩,
                                          ⟨(some 65), .callF 64 [], none, 0, 0⟩,
                                          ⟨(some 66), .callF 66 [(.c (.d (.sc (.int .i64 32))))], none, 0, 0⟩,
                                          ⟨(some 67), .buildSlice 4 2 [(.sc (.int .i64 0)), (.sc (.int .i64 0)), (.sc (.bool false)), (.sc (.bool false))] [(0, (.t 65)), (1, (.t 66))], none, 0, 0⟩,
                                          ⟨(some 68), .callv (.t 64) [(.t 67)], none, 0, 0⟩] false)
                                        (.exit 0))))
                                     (.seq
                                      (.region [⟨(some 69), .mov (.t 4), none, 0, 0⟩,
                                        ⟨(some 70), .callF 64 [], none, 0, 0⟩,
                                        ⟨(some 71), .callF 66 [(.c (.d (.sc (.int .i64 2))))], none, 0, 0⟩,
                                        ⟨(some 72), .buildSlice 4 2 [(.sc (.int .i64 0)), (.sc (.int .i64 0)), (.sc (.bool false)), (.sc (.bool false))] [(0, (.t 70)), (1, (.t 71))], none, 0, 0⟩,
                                        ⟨(some 73), .callv (.t 69) [(.t 72)], none, 0, 0⟩] false)
                                      (.exit 0))))
                                   (.seq
                                    (.region [⟨(some 74), .mov (.t 4), none, 0, 0⟩,
                                      ⟨(some 75), .callF 64 [], none, 0, 0⟩,
                                      ⟨(some 76), .buildSlice 4 1 [(.sc (.int .i64 0)), (.sc (.int .i64 0)), (.sc (.bool false)), (.sc (.bool false))] [(0, (.t 75))], none, 0, 0⟩,
                                      ⟨(some 77), .callv (.t 74) [(.t 76)], none, 0, 0⟩] false)
                                    (.exit 0))))
                                 (.region [⟨(some 78), .callF 67 [], none, 0, 0⟩,
                                   ⟨(some 79), .indexArr 3 4 (.t 2) (.c (.d (.sc (.int .i64 2)))), none, 0, 0⟩,
                                   ⟨none, .store 4 (.t 79) (.t 78), none, 0, 0⟩] false)))
                               (.seq
                                (.seq
                                 (.region [⟨(some 80), .callF 64 [], none, 0, 0⟩,
                                   ⟨(some 81), .callF 67 [], none, 0, 0⟩,
                                   ⟨(some 82), .indexArr 3 4 (.t 2) (.c (.d (.sc (.int .i64 0)))), none, 0, 0⟩,
                                   ⟨none, .store 4 (.t 82) (.t 80), none, 0, 0⟩,
                                   ⟨(some 83), .indexArr 3 4 (.t 2) (.c (.d (.sc (.int .i64 1)))), none, 0, 0⟩,
                                   ⟨none, .store 4 (.t 83) (.t 81), none, 0, 0⟩,
                                   ⟨none, .store 1 (.t 3) (.c (.d (.sc (.int .i64 2)))), none, 0, 0⟩] false)
                                 (.seq
                                  (.region [⟨(some 84), .indexArr 3 4 (.t 2) (.c (.d (.sc (.int .i64 2)))), none, 0, 0⟩,
                                    ⟨(some 85), .fieldAddr 2 (.t 84), none, 0, 0⟩,
                                    ⟨(some 86), .load 1 false (.t 85), none, 0, 0⟩] false)
                                  (.cond (.t 86)
                                   (.region [⟨none, .store 1 (.t 3) (.c (.d (.sc (.int .i64 3)))), none, 0, 0⟩] false)
                                   .skip)))
                                (.exit 0))))
                             (.seq
                              (.region [⟨(some 87), .mov (.t 4), none, 0, 0⟩,
                                ⟨(some 88), .callF 64 [], none, 0, 0⟩,
                                ⟨(some 89), .callF 67 [], none, 0, 0⟩,
                                ⟨(some 90), .callF 66 [(.c (.d (.sc (.int .i64 8))))], none, 0, 0⟩,
                                ⟨(some 91), .buildSlice 4 3 [(.sc (.int .i64 0)), (.sc (.int .i64 0)), (.sc (.bool false)), (.sc (.bool false))] [(0, (.t 88)), (1, (.t 89)), (2, (.t 90))], none, 0, 0⟩,
                                ⟨(some 92), .callv (.t 87) [(.t 91)], none, 0, 0⟩] false)
                              (.exit 0))))
                           (.seq
                            (.region [⟨(some 93), .mov (.t 4), none, 0, 0⟩,
                              ⟨(some 94), .callF 67 [], none, 0, 0⟩,
                              ⟨(some 95), .callF 66 [(.c (.d (.sc (.int .i64 8))))], none, 0, 0⟩,
                              ⟨(some 96), .callF 67 [], none, 0, 0⟩,
                              ⟨(some 97), .buildSlice 4 3 [(.sc (.int .i64 0)), (.sc (.int .i64 0)), (.sc (.bool false)), (.sc (.bool false))] [(0, (.t 94)), (1, (.t 95)), (2, (.t 96))], none, 0, 0⟩,
                              ⟨(some 98), .callv (.t 93) [(.t 97)], none, 0, 0⟩] false)
                            (.exit 0))))
                         (.seq
                          (.region [⟨(some 99), .mov (.t 4), none, 0, 0⟩,
                            ⟨(some 100), .callF 67 [], none, 0, 0⟩,
                            ⟨(some 101), .callF 67 [], none, 0, 0⟩,
                            ⟨(some 102), .callF 67 [], none, 0, 0⟩,
                            ⟨(some 103), .buildSlice 4 3 [(.sc (.int .i64 0)), (.sc (.int .i64 0)), (.sc (.bool false)), (.sc (.bool false))] [(0, (.t 100)), (1, (.t 101)), (2, (.t 102))], none, 0, 0⟩,
                            ⟨(some 104), .callv (.t 99) [(.t 103)], none, 0, 0⟩] false)
                          (.exit 0))))
                       (.seq
                        (.region [⟨(some 105), .mov (.t 4), none, 0, 0⟩,
                          ⟨(some 106), .callF 67 [], none, 0, 0⟩,
                          ⟨(some 107), .callF 67 [], none, 0, 0⟩,
                          ⟨(some 108), .buildSlice 4 2 [(.sc (.int .i64 0)), (.sc (.int .i64 0)), (.sc (.bool false)), (.sc (.bool false))] [(0, (.t 106)), (1, (.t 107))], none, 0, 0⟩,
                          ⟨(some 109), .callv (.t 105) [(.t 108)], none, 0, 0⟩] false)
                        (.exit 0))))
                     (.seq
                      (.region [⟨(some 110), .mov (.t 4), none, 0, 0⟩,
                        ⟨(some 111), .callF 66 [(.c (.d (.sc (.int .i64 200))))], none, 0, 0⟩,
                        ⟨(some 112), .buildSlice 4 1 [(.sc (.int .i64 0)), (.sc (.int .i64 0)), (.sc (.bool false)), (.sc (.bool false))] [(0, (.t 111))], none, 0, 0⟩,
                        ⟨(some 113), .callv (.t 110) [(.t 112)], none, 0, 0⟩] false)
                      (.exit 0))))
                   (.seq
                    (.region [⟨(some 114), .mov (.t 4), none, 0, 0⟩,
                      ⟨(some 115), .callF 67 [], none, 0, 0⟩,
                      ⟨(some 116), .callF 66 [(.c (.d (.sc (.int .i64 200))))], none, 0, 0⟩,
                      ⟨(some 117), .buildSlice 4 2 [(.sc (.int .i64 0)), (.sc (.int .i64 0)), (.sc (.bool false)), (.sc (.bool false))] [(0, (.t 115)), (1, (.t 116))], none, 0, 0⟩,
                      ⟨(some 118), .callv (.t 114) [(.t 117)], none, 0, 0⟩] false)
                    (.exit 0))))
                 (.seq
                  (.region [⟨(some 119), .mov (.t 4), none, 0, 0⟩,
                    ⟨(some 120), .callF 67 [], none, 0, 0⟩,
                    ⟨(some 121), .buildSlice 4 1 [(.sc (.int .i64 0)), (.sc (.int .i64 0)), (.sc (.bool false)), (.sc (.bool false))] [(0, (.t 120))], none, 0, 0⟩,
                    ⟨(some 122), .callv (.t 119) [(.t 121)], none, 0, 0⟩] false)
                  (.exit 0))))
               (.seq
                (.seq
                 (.region [⟨(some 123), .mov (.t 4), none, 0, 0⟩,
                   ⟨(some 124), .callF 64 [], none, 0, 0⟩,
                   ⟨(some 125), .callF 66 [(.c (.d (.sc (.int .i64 32))))], none, 0, 0⟩,
                   ⟨(some 126), .buildSlice 4 2 [(.sc (.int .i64 0)), (.sc (.int .i64 0)), (.sc (.bool false)), (.sc (.bool false))] [(0, (.t 124)), (1, (.t 125))], none, 0, 0⟩,
                   ⟨(some 127), .callv (.t 123) [(.t 126)], none, 0, 0⟩] false)
                 (.region [⟨(some 128), .indexArr 3 4 (.t 2) (.c (.d (.sc (.int .i64 0)))), none, 0, 0⟩,
                   ⟨(some 129), .fieldAddr 0 (.t 128), none, 0, 0⟩,
                   ⟨none, .store 1 (.t 129) (.c (.d (.sc (.int .i64 (-1))))), none, 0, 0⟩] false))
                (.exit 0))))
             (.seq
              (.region [⟨(some 130), .mov (.t 4), none, 0, 0⟩,
                ⟨(some 131), .callF 66 [(.c (.d (.sc (.int .i64 32))))], none, 0, 0⟩,
                ⟨(some 132), .buildSlice 4 1 [(.sc (.int .i64 0)), (.sc (.int .i64 0)), (.sc (.bool false)), (.sc (.bool false))] [(0, (.t 131))], none, 0, 0⟩,
                ⟨(some 133), .callv (.t 130) [(.t 132)], none, 0, 0⟩] false)
              (.exit 0))))
           (.seq
            (.region [⟨(some 134), .mov (.t 4), none, 0, 0⟩,
              ⟨(some 135), .callF 64 [], none, 0, 0⟩,
              ⟨(some 136), .callF 64 [], none, 0, 0⟩,
              ⟨(some 137), .buildSlice 4 2 [(.sc (.int .i64 0)), (.sc (.int .i64 0)), (.sc (.bool false)), (.sc (.bool false))] [(0, (.t 135)), (1, (.t 136))], none, 0, 0⟩,
              ⟨(some 138), .callv (.t 134) [(.t 137)], none, 0, 0⟩] false)
            (.exit 0))))
         (.seq
          (.seq
           (.region [⟨(some 139), .mov (.t 4), none, 0, 0⟩,
             ⟨(some 140), .callF 67 [], none, 0, 0⟩,
             ⟨(some 141), .buildSlice 4 1 [(.sc (.int .i64 0)), (.sc (.int .i64 0)), (.sc (.bool false)), (.sc (.bool false))] [(0, (.t 140))], none, 0, 0⟩,
             ⟨(some 142), .callv (.t 139) [(.t 141)], none, 0, 0⟩] false)
           (.region [⟨(some 143), .indexArr 3 4 (.t 2) (.c (.d (.sc (.int .i64 0)))), none, 0, 0⟩,
             ⟨(some 144), .fieldAddr 0 (.t 143), none, 0, 0⟩,
             ⟨none, .store 1 (.t 144) (.c (.d (.sc (.int .i64 (-1))))), none, 0, 0⟩] false))
          (.exit 0))))
       (.seq
        (.region [⟨none, .store 1 (.t 3) (.c (.d (.sc (.int .i64 (-1))))), none, 0, 0⟩] false)
        (.exit 0)))))
    (.seq
     (.region [⟨(some 145), .load 12 true (.t 2), none, 0, 0⟩,
       ⟨(some 146), .load 1 false (.t 3), none, 0, 0⟩,
       ⟨none, .store 12 (.t 2) (.t 145), none, 1, 0⟩,
       ⟨none, .store 1 (.t 3) (.t 146), none, 7, 0⟩] true)
     .ret)))), false⟩
/-- wreckage/ops.operands -/
def t56 : AFn := ⟨1, 10, [.cell 2 3 true],
 (.seq
  (.region [⟨(some 1), .box (.t 0), none, 0, 0⟩,
    ⟨(some 2), .alloc [(.d (.sc (.int .i64 0))), (.d (.sc (.int .i64 0))), (.d (.sc (.int .i64 0)))], none, 0, 0⟩] false)
  (.seq
   (.region [⟨(some 3), .fieldAddr 1 (.t 1), none, 0, 0⟩,
     ⟨(some 4), .load 1 false (.t 3), none, 0, 0⟩,
     ⟨(some 5), .fieldAddr 2 (.t 1), none, 0, 0⟩,
     ⟨(some 6), .load 1 false (.t 5), none, 0, 0⟩,
     ⟨(some 7), .fieldAddr 3 (.t 1), none, 0, 0⟩,
     ⟨(some 8), .load 1 false (.t 7), none, 0, 0⟩,
     ⟨(some 9), .build [(.d (.sc (.int .i64 0))), (.d (.sc (.int .i64 0))), (.d (.sc (.int .i64 0)))] [(0, 1, (.t 4)), (1, 1, (.t 6)), (2, 1, (.t 8))], none, 0, 0⟩,
     ⟨none, .store 3 (.t 2) (.t 9), none, 0, 0⟩] false)
   .ret)), false⟩
/-- wreckage/ops.Check -/
def t40 : AFn := ⟨1, 36, [.t 2],
 (.seq
  (.region [⟨(some 1), .box (.t 0), none, 0, 0⟩,
    ⟨(some 2), .mov (.c (.d (.sc (.int .i64 0)))), none, 0, 0⟩] false)
  (.seq
   (.region [⟨(some 8), .fieldAddr 0 (.t 1), none, 0, 0⟩,
     ⟨(some 9), .load 1 false (.t 8), none, 0, 0⟩,
     ⟨(some 10), .callF 55 [(.t 9)], none, 0, 0⟩,
     ⟨(some 7), .mov (.t 10), none, 0, 0⟩,
     ⟨(some 11), .extract (.t 7) 0, none, 0, 0⟩,
     ⟨(some 12), .extract (.t 7) 1, none, 0, 0⟩,
     ⟨(some 3), .alloc [(.d (.sc (.int .i64 0))), (.d (.sc (.int .i64 0))), (.d (.sc (.bool false))), (.d (.sc (.bool false))), (.d (.sc (.int .i64 0))), (.d (.sc (.int .i64 0))), (.d (.sc (.bool false))), (.d (.sc (.bool false))), (.d (.sc (.int .i64 0))), (.d (.sc (.int .i64 0))), (.d (.sc (.bool false))), (.d (.sc (.bool false)))], none, 0, 0⟩,
     ⟨none, .store 12 (.t 3) (.t 11), none, 0, 0⟩,
     ⟨(some 4), .mov (.t 12), none, 0, 0⟩] false)
   (.seq
    (.seq
     (.region [⟨(some 13), .mov (.t 4), none, 0, 0⟩,
       ⟨(some 14), .bin .lss (.t 13) (.c (.d (.sc (.int .i64 0)))), none, 0, 0⟩] false)
     (.cond (.t 14)
      (.seq
       (.region [⟨(some 2), .mov (.c (.d (.sc (.int .i64 8)))), none, 0, 0⟩] false)
       .ret)
      .skip))
    (.seq
     (.seq
      (.region [⟨(some 15), .load 4 true (.t 1), none, 0, 0⟩,
        ⟨(some 16), .callF 56 [(.t 15)], none, 0, 0⟩,
        ⟨(some 17), .mov (.c (.d (.sc (.int .i64 0)))), none, 0, 0⟩] false)
      (.block 0
       (.loop
        (.seq
         (.region [⟨(some 18), .bin .lss (.t 17) (.c (.d (.sc (.int .i64 3)))), none, 0, 0⟩] false)
         (.seq
          (.cond (.t 18)
           .skip
           (.exit 0))
          (.seq
           (.block 1
            (.seq
             (.region [⟨(some 19), .mov (.t 17), none, 0, 0⟩,
               ⟨(some 20), .indexA 3 1 false (.t 16) (.t 17), none, 0, 0⟩,
               ⟨(some 5), .mov (.t 19), none, 0, 0⟩,
               ⟨(some 6), .mov (.t 20), none, 0, 0⟩] false)
             (.seq
              (.region [⟨(some 21), .mov (.t 6), none, 0, 0⟩,
                ⟨(some 22), .mov (.t 5), none, 0, 0⟩,
                ⟨(some 23), .indexArr 3 4 (.t 3) (.t 22), none, 0, 0⟩,
                ⟨(some 24), .fieldAddr 0 (.t 23), none, 0, 0⟩,
                ⟨(some 25), .load 1 false (.t 24), none, 0, 0⟩,
                ⟨(some 26), .bin .lss (.t 21) (.t 25), none, 0, 0⟩,
                ⟨(some 27), .mov (.t 26), none, 0, 0⟩,
                ⟨(some 28), .mov (.t 6), (some (27, false)), 0, 0⟩,
                ⟨(some 29), .mov (.t 5), (some (27, false)), 0, 0⟩,
                ⟨(some 30), .indexArr 3 4 (.t 3) (.t 29), (some (27, false)), 0, 0⟩,
                ⟨(some 31), .fieldAddr 1 (.t 30), (some (27, false)), 0, 0⟩,
                ⟨(some 32), .load 1 false (.t 31), (some (27, false)), 0, 0⟩,
                ⟨(some 33), .bin .gtr (.t 28) (.t 32), (some (27, false)), 0, 0⟩,
                ⟨(some 34), .pick (.t 27) (.c (.d (.sc (.bool true)))) (.t 33), none, 0, 0⟩] false)
              (.cond (.t 34)
               (.seq
                (.region [⟨(some 2), .mov (.c (.d (.sc (.int .i64 8)))), none, 0, 0⟩] false)
                .ret)
               .skip))))
           (.region [⟨(some 35), .bin .add (.t 17) (.c (.d (.sc (.int .i64 1)))), none, 0, 0⟩,
             ⟨(some 17), .mov (.t 35), none, 0, 0⟩] false)))))))
     (.seq
      (.region [⟨(some 2), .mov (.c (.d (.sc (.int .i64 0)))), none, 0, 0⟩] false)
      .ret))))), false⟩
/-- wreckage/flow.Check -/
def t15 : AFn := ⟨1, 53, [.t 2],
 (.seq
  (.region [⟨(some 2), .mov (.c (.d (.sc (.int .i64 0)))), none, 0, 0⟩] false)
  (.seq
   (.region [⟨(some 6), .mov (.t 0), none, 0, 0⟩,
     ⟨(some 7), .len (.t 6), none, 0, 0⟩,
     ⟨(some 3), .mov (.t 7), none, 0, 0⟩] false)
   (.seq
    (.seq
     (.region [⟨(some 8), .mov (.t 3), none, 0, 0⟩,
       ⟨(some 9), .bin .eql (.t 8) (.c (.d (.sc (.int .i64 0)))), none, 0, 0⟩,
       ⟨(some 10), .mov (.t 9), none, 0, 0⟩,
       ⟨(some 11), .mov (.t 3), (some (10, false)), 0, 0⟩,
       ⟨(some 12), .bin .gtr (.t 11) (.c (.d (.sc (.int .i64 200)))), (some (10, false)), 0, 0⟩,
       ⟨(some 13), .pick (.t 10) (.c (.d (.sc (.bool true)))) (.t 12), none, 0, 0⟩,
       ⟨(some 14), .mov (.t 13), none, 0, 0⟩,
       ⟨(some 15), .mov (.t 0), (some (14, false)), 0, 0⟩,
       ⟨(some 16), .mov (.t 3), (some (14, false)), 0, 0⟩,
       ⟨(some 17), .bin .sub (.t 16) (.c (.d (.sc (.int .i64 1)))), (some (14, false)), 0, 0⟩,
       ⟨(some 18), .indexAddr 4 (.t 15) (.t 17), (some (14, false)), 0, 0⟩,
       ⟨(some 19), .load 4 true (.t 18), (some (14, false)), 0, 0⟩,
       ⟨(some 20), .build [(.d (.sc (.int .u8 0))), (.d (.sc (.int .i64 0))), (.d (.sc (.int .i64 0))), (.d (.sc (.int .i64 0)))] [(0, 1, (.c (.d (.sc (.int .u8 34))))), (1, 1, (.c (.d (.sc (.int .i64 (-1))))))], (some (14, false)), 0, 0⟩,
       ⟨(some 21), .eqA true 4 [(0, 1), (1, 1), (2, 1), (3, 1)] (.t 19) (.t 20), (some (14, false)), 0, 0⟩,
       ⟨(some 22), .pick (.t 14) (.c (.d (.sc (.bool true)))) (.t 21), none, 0, 0⟩] false)
     (.cond (.t 22)
      (.seq
       (.region [⟨(some 2), .mov (.c (.d (.sc (.int .i64 8)))), none, 0, 0⟩] false)
       .ret)
      .skip))
    (.seq
     (.seq
      (.region [⟨(some 23), .mov (.t 0), none, 0, 0⟩,
        ⟨(some 24), .len (.t 23), none, 0, 0⟩,
        ⟨(some 25), .mov (.c (.d (.sc (.int .i64 0)))), none, 0, 0⟩] false)
      (.block 0
       (.loop
        (.seq
         (.region [⟨(some 26), .bin .lss (.t 25) (.t 24), none, 0, 0⟩] false)
         (.seq
          (.cond (.t 26)
           .skip
           (.exit 0))
          (.seq
           (.block 1
            (.seq
             (.region [⟨(some 27), .indexAddr 4 (.t 23) (.t 25), none, 0, 0⟩,
               ⟨(some 28), .load 4 true (.t 27), none, 0, 0⟩,
               ⟨(some 5), .alloc [(.d (.sc (.int .u8 0))), (.d (.sc (.int .i64 0))), (.d (.sc (.int .i64 0))), (.d (.sc (.int .i64 0)))], none, 0, 0⟩,
               ⟨none, .store 4 (.t 5) (.t 28), none, 0, 0⟩] false)
             (.seq
              (.seq
               (.region [⟨(some 29), .load 4 true (.t 5), none, 0, 0⟩,
                 ⟨(some 30), .callF 40 [(.t 29)], none, 0, 0⟩,
                 ⟨(some 31), .bin .neq (.t 30) (.c (.d (.sc (.int .i64 0)))), none, 0, 0⟩] false)
               (.cond (.t 31)
                (.seq
                 (.region [⟨(some 2), .mov (.c (.d (.sc (.int .i64 8)))), none, 0, 0⟩] false)
                 .ret)
                .skip))
              (.seq
               (.region [⟨(some 32), .fieldAddr 0 (.t 5), none, 0, 0⟩,
                 ⟨(some 33), .load 1 false (.t 32), none, 0, 0⟩,
                 ⟨(some 34), .bin .eql (.t 33) (.c (.d (.sc (.int .u8 22)))), none, 0, 0⟩,
                 ⟨(some 35), .mov (.t 34), none, 0, 0⟩,
                 ⟨(some 36), .fieldAddr 1 (.t 5), (some (35, true)), 0, 0⟩,
                 ⟨(some 37), .load 1 false (.t 36), (some (35, true)), 0, 0⟩,
                 ⟨(some 38), .mov (.t 3), (some (35, true)), 0, 0⟩,
                 ⟨(some 39), .bin .geq (.t 37) (.t 38), (some (35, true)), 0, 0⟩,
                 ⟨(some 40), .pick (.t 35) (.t 39) (.c (.d (.sc (.bool false)))), none, 0, 0⟩,
                 ⟨(some 41), .mov (.t 40), none, 0, 0⟩,
                 ⟨(some 42), .fieldAddr 0 (.t 5), (some (41, false)), 0, 0⟩,
                 ⟨(some 43), .load 1 false (.t 42), (some (41, false)), 0, 0⟩,
                 ⟨(some 44), .bin .eql (.t 43) (.c (.d (.sc (.int .u8 23)))), (some (41, false)), 0, 0⟩,
                 ⟨(some 45), .mov (.t 44), (some (41, false)), 0, 0⟩,
                 ⟨(some 46), .fieldAddr 2 (.t 5), (some (45, true)), 0, 0⟩,
                 ⟨(some 47), .load 1 false (.t 46), (some (45, true)), 0, 0⟩,
                 ⟨(some 48), .mov (.t 3), (some (45, true)), 0, 0⟩,
                 ⟨(some 49), .bin .geq (.t 47) (.t 48), (some (45, true)), 0, 0⟩,
                 ⟨(some 50), .pick (.t 45) (.t 49) (.c (.d (.sc (.bool false)))), (some (41, false)), 0, 0⟩,
                 ⟨(some 51), .pick (.t 41) (.c (.d (.sc (.bool true)))) (.t 50), none, 0, 0⟩] false)
               (.cond (.t 51)
                (.seq
                 (.region [⟨(some 2), .mov (.c (.d (.sc (.int .i64 8)))), none, 0, 0⟩] false)
                 .ret)
                .skip)))))
           (.region [⟨(some 52), .bin .add (.t 25) (.c (.d (.sc (.int .i64 1)))), none, 0, 0⟩,
             ⟨(some 25), .mov (.t 52), none, 0, 0⟩] false)))))))
     (.seq
      (.region [⟨(some 2), .mov (.c (.d (.sc (.int .i64 0)))), none, 0, 0⟩] false)
      .ret))))), false⟩
/-- wreckage/ops.Slots -/
def t44 : AFn := ⟨1, 54, [.t 2, .t 3, .t 4],
 (.seq
  (.region [⟨(some 1), .box (.t 0), none, 0, 0⟩,
    ⟨(some 2), .mov (.c (.own [] .full)), none, 0, 0⟩,
    ⟨(some 3), .mov (.c (.own [] .full)), none, 0, 0⟩,
    ⟨(some 4), .mov (.c (.d (.sc (.int .i64 0)))), none, 0, 0⟩] false)
  (.seq
   (.seq
    (.region [⟨(some 10), .load 4 true (.t 1), none, 0, 0⟩,
      ⟨(some 11), .callF 40 [(.t 10)], none, 0, 0⟩,
      ⟨(some 5), .mov (.t 11), none, 0, 0⟩] false)
    (.seq
     (.region [⟨(some 12), .mov (.t 5), none, 0, 0⟩,
       ⟨(some 13), .bin .neq (.t 12) (.c (.d (.sc (.int .i64 0)))), none, 0, 0⟩] false)
     (.cond (.t 13)
      (.seq
       (.region [⟨(some 14), .mov (.t 5), none, 0, 0⟩,
         ⟨(some 2), .mov (.c (.own [] .full)), none, 0, 0⟩,
         ⟨(some 3), .mov (.c (.own [] .full)), none, 0, 0⟩,
         ⟨(some 4), .mov (.t 14), none, 0, 0⟩] false)
       .ret)
      .skip)))
   (.seq
    (.region [⟨(some 16), .fieldAddr 0 (.t 1), none, 0, 0⟩,
      ⟨(some 17), .load 1 false (.t 16), none, 0, 0⟩,
      ⟨(some 18), .callF 55 [(.t 17)], none, 0, 0⟩,
      ⟨(some 15), .mov (.t 18), none, 0, 0⟩,
      ⟨(some 19), .extract (.t 15) 0, none, 0, 0⟩,
      ⟨(some 20), .extract (.t 15) 1, none, 0, 0⟩,
      ⟨(some 6), .alloc [(.d (.sc (.int .i64 0))), (.d (.sc (.int .i64 0))), (.d (.sc (.bool false))), (.d (.sc (.bool false))), (.d (.sc (.int .i64 0))), (.d (.sc (.int .i64 0))), (.d (.sc (.bool false))), (.d (.sc (.bool false))), (.d (.sc (.int .i64 0))), (.d (.sc (.int .i64 0))), (.d (.sc (.bool false))), (.d (.sc (.bool false)))], none, 0, 0⟩,
      ⟨none, .store 12 (.t 6) (.t 19), none, 0, 0⟩,
      ⟨(some 7), .mov (.t 20), none, 0, 0⟩] false)
    (.seq
     (.seq
      (.region [⟨(some 21), .load 4 true (.t 1), none, 0, 0⟩,
        ⟨(some 22), .callF 56 [(.t 21)], none, 0, 0⟩,
        ⟨(some 23), .mov (.c (.d (.sc (.int .i64 0)))), none, 0, 0⟩] false)
      (.block 0
       (.loop
        (.seq
         (.region [⟨(some 24), .bin .lss (.t 23) (.c (.d (.sc (.int .i64 3)))), none, 0, 0⟩] false)
         (.seq
          (.cond (.t 24)
           .skip
           (.exit 0))
          (.seq
           (.block 1
            (.seq
             (.region [⟨(some 25), .mov (.t 23), none, 0, 0⟩,
               ⟨(some 26), .indexA 3 1 false (.t 22) (.t 23), none, 0, 0⟩,
               ⟨(some 8), .mov (.t 25), none, 0, 0⟩,
               ⟨(some 9), .mov (.t 26), none, 0, 0⟩] false)
             (.seq
              (.seq
               (.region [⟨(some 27), .mov (.t 8), none, 0, 0⟩,
                 ⟨(some 28), .indexArr 3 4 (.t 6) (.t 27), none, 0, 0⟩,
                 ⟨(some 29), .fieldAddr 2 (.t 28), none, 0, 0⟩,
                 ⟨(some 30), .load 1 false (.t 29), none, 0, 0⟩,
                 ⟨(some 31), .mov (.t 30), none, 0, 0⟩,
                 ⟨(some 32), .mov (.t 9), (some (31, true)), 0, 0⟩,
                 ⟨(some 33), .bin .geq (.t 32) (.c (.d (.sc (.int .i64 0)))), (some (31, true)), 0, 0⟩,
                 ⟨(some 34), .pick (.t 31) (.t 33) (.c (.d (.sc (.bool false)))), none, 0, 0⟩] false)
               (.cond (.t 34)
                (.region [⟨(some 35), .mov (.t 2), none, 0, 0⟩,
                  ⟨(some 36), .mov (.t 9), none, 0, 0⟩,
                  ⟨(some 37), .buildSlice 1 1 [(.sc (.int .i64 0))] [(0, (.t 36))], none, 0, 0⟩,
                  ⟨(some 38), .append 1 8 (.t 35) (.t 37), none, 0, 0⟩,
                  ⟨(some 2), .mov (.t 38), none, 0, 0⟩] false)
                .skip))
              (.seq
               (.region [⟨(some 39), .mov (.t 8), none, 0, 0⟩,
                 ⟨(some 40), .indexArr 3 4 (.t 6) (.t 39), none, 0, 0⟩,
                 ⟨(some 41), .fieldAddr 3 (.t 40), none, 0, 0⟩,
                 ⟨(some 42), .load 1 false (.t 41), none, 0, 0⟩,
                 ⟨(some 43), .mov (.t 42), none, 0, 0⟩,
                 ⟨(some 44), .mov (.t 9), (some (43, true)), 0, 0⟩,
                 ⟨(some 45), .bin .geq (.t 44) (.c (.d (.sc (.int .i64 0)))), (some (43, true)), 0, 0⟩,
                 ⟨(some 46), .pick (.t 43) (.t 45) (.c (.d (.sc (.bool false)))), none, 0, 0⟩] false)
               (.cond (.t 46)
                (.region [⟨(some 47), .mov (.t 3), none, 0, 0⟩,
                  ⟨(some 48), .mov (.t 9), none, 0, 0⟩,
                  ⟨(some 49), .buildSlice 1 1 [(.sc (.int .i64 0))] [(0, (.t 48))], none, 0, 0⟩,
                  ⟨(some 50), .append 1 8 (.t 47) (.t 49), none, 0, 0⟩,
                  ⟨(some 3), .mov (.t 50), none, 0, 0⟩] false)
                .skip)))))
           (.region [⟨(some 51), .bin .add (.t 23) (.c (.d (.sc (.int .i64 1)))), none, 0, 0⟩,
             ⟨(some 23), .mov (.t 51), none, 0, 0⟩] false)))))))
     (.seq
      (.region [⟨(some 52), .mov (.t 2), none, 0, 0⟩,
        ⟨(some 53), .mov (.t 3), none, 0, 0⟩,
        ⟨(some 2), .mov (.t 52), none, 0, 0⟩,
        ⟨(some 3), .mov (.t 53), none, 0, 0⟩,
        ⟨(some 4), .mov (.c (.d (.sc (.int .i64 0)))), none, 0, 0⟩] false)
      .ret))))), false⟩
/-- wreckage/flow.mask -/
def t45 : AFn := ⟨1, 18, [.t 2],
 (.seq
  (.region [⟨(some 2), .mov (.c (.d (.sc (.int .u64 0)))), none, 0, 0⟩] false)
  (.seq
   (.region [⟨(some 3), .mov (.c (.d (.sc (.int .u64 0)))), none, 0, 0⟩] false)
   (.seq
    (.seq
     (.region [⟨(some 6), .mov (.t 0), none, 0, 0⟩,
       ⟨(some 7), .len (.t 6), none, 0, 0⟩,
       ⟨(some 8), .mov (.c (.d (.sc (.int .i64 0)))), none, 0, 0⟩] false)
     (.block 0
      (.loop
       (.seq
        (.region [⟨(some 9), .bin .lss (.t 8) (.t 7), none, 0, 0⟩] false)
        (.seq
         (.cond (.t 9)
          .skip
          (.exit 0))
         (.seq
          (.block 1
           (.seq
            (.region [⟨(some 10), .indexAddr 1 (.t 6) (.t 8), none, 0, 0⟩,
              ⟨(some 11), .load 1 false (.t 10), none, 0, 0⟩,
              ⟨(some 5), .mov (.t 11), none, 0, 0⟩] false)
            (.region [⟨(some 12), .mov (.t 3), none, 0, 0⟩,
              ⟨(some 13), .mov (.t 5), none, 0, 0⟩,
              ⟨(some 14), .bin .shl (.c (.d (.sc (.int .u64 1)))) (.t 13), none, 0, 0⟩,
              ⟨(some 15), .bin .or (.t 12) (.t 14), none, 0, 0⟩,
              ⟨(some 3), .mov (.t 15), none, 0, 0⟩] false)))
          (.region [⟨(some 16), .bin .add (.t 8) (.c (.d (.sc (.int .i64 1)))), none, 0, 0⟩,
            ⟨(some 8), .mov (.t 16), none, 0, 0⟩] false)))))))
    (.seq
     (.region [⟨(some 17), .mov (.t 3), none, 0, 0⟩,
       ⟨(some 2), .mov (.t 17), none, 0, 0⟩] false)
     .ret)))), false⟩
/-- wreckage/flow.Masks$1 -/
def t46 : AFn := ⟨6, 60, [.t 8],
 (.seq
  (.region [⟨(some 8), .mov (.c (.d (.sc (.bool false)))), none, 0, 0⟩] false)
  (.seq
   (.seq
    (.region [⟨(some 11), .mov (.t 1), none, 0, 0⟩,
      ⟨(some 12), .bin .lss (.t 11) (.c (.d (.sc (.int .i64 0)))), none, 0, 0⟩] false)
    (.cond (.t 12)
     (.seq
      (.region [⟨(some 13), .load 1 false (.t 3), none, 0, 0⟩,
        ⟨(some 14), .mov (.t 0), none, 0, 0⟩,
        ⟨(some 15), .load 1 false (.t 4), none, 0, 0⟩,
        ⟨(some 16), .mov (.t 0), none, 0, 0⟩,
        ⟨(some 17), .load 1 false (.t 2), none, 0, 0⟩,
        ⟨(some 18), .bin .shl (.c (.d (.sc (.int .u64 1)))) (.t 17), none, 16, 0⟩,
        ⟨(some 19), .bin .sub (.t 18) (.c (.d (.sc (.int .u64 1)))), none, 48, 0⟩,
        ⟨(some 20), .indexAddr 1 (.t 13) (.t 14), none, 3, 0⟩,
        ⟨none, .store 1 (.t 20) (.c (.d (.sc (.bool true)))), none, 131, 0⟩,
        ⟨(some 21), .indexAddr 1 (.t 15) (.t 16), none, 511, 0⟩,
        ⟨none, .store 1 (.t 21) (.t 19), none, 1023, 0⟩] true)
      (.seq
       (.region [⟨(some 8), .mov (.c (.d (.sc (.bool true)))), none, 0, 0⟩] false)
       .ret))
     .skip))
   (.seq
    (.region [⟨(some 22), .load 1 false (.t 4), none, 0, 0⟩,
      ⟨(some 23), .mov (.t 1), none, 0, 0⟩,
      ⟨(some 24), .indexAddr 1 (.t 22) (.t 23), none, 3, 0⟩,
      ⟨(some 25), .load 1 false (.t 24), none, 7, 0⟩,
      ⟨(some 26), .load 1 false (.t 5), none, 0, 0⟩,
      ⟨(some 27), .mov (.t 1), none, 0, 0⟩,
      ⟨(some 28), .indexAddr 1 (.t 26) (.t 27), none, 48, 0⟩,
      ⟨(some 29), .load 1 false (.t 28), none, 112, 0⟩,
      ⟨(some 30), .bin .or (.t 25) (.t 29), none, 255, 0⟩,
      ⟨(some 9), .mov (.t 30), none, 511, 0⟩] true)
    (.seq
     (.seq
      (.region [⟨(some 31), .load 1 false (.t 3), none, 0, 0⟩,
        ⟨(some 32), .mov (.t 0), none, 0, 0⟩,
        ⟨(some 33), .indexAddr 1 (.t 31) (.t 32), none, 0, 0⟩,
        ⟨(some 34), .load 1 false (.t 33), none, 0, 0⟩,
        ⟨(some 35), .un .not (.t 34), none, 0, 0⟩] false)
      (.cond (.t 35)
       (.seq
        (.region [⟨(some 36), .load 1 false (.t 3), none, 0, 0⟩,
          ⟨(some 37), .mov (.t 0), none, 0, 0⟩,
          ⟨(some 38), .load 1 false (.t 4), none, 0, 0⟩,
          ⟨(some 39), .mov (.t 0), none, 0, 0⟩,
          ⟨(some 40), .mov (.t 9), none, 0, 0⟩,
          ⟨(some 41), .indexAddr 1 (.t 36) (.t 37), none, 3, 0⟩,
          ⟨none, .store 1 (.t 41) (.c (.d (.sc (.bool true)))), none, 35, 0⟩,
          ⟨(some 42), .indexAddr 1 (.t 38) (.t 39), none, 127, 0⟩,
          ⟨none, .store 1 (.t 42) (.t 40), none, 255, 0⟩] true)
        (.seq
         (.region [⟨(some 8), .mov (.c (.d (.sc (.bool true)))), none, 0, 0⟩] false)
         .ret))
       .skip))
     (.seq
      (.region [⟨(some 43), .load 1 false (.t 4), none, 0, 0⟩,
        ⟨(some 44), .mov (.t 0), none, 0, 0⟩,
        ⟨(some 45), .indexAddr 1 (.t 43) (.t 44), none, 0, 0⟩,
        ⟨(some 46), .load 1 false (.t 45), none, 0, 0⟩,
        ⟨(some 10), .mov (.t 46), none, 0, 0⟩] false)
      (.seq
       (.region [⟨(some 47), .load 1 false (.t 4), none, 0, 0⟩,
         ⟨(some 48), .mov (.t 0), none, 0, 0⟩,
         ⟨(some 49), .indexAddr 1 (.t 47) (.t 48), none, 0, 0⟩,
         ⟨(some 50), .load 1 false (.t 49), none, 0, 0⟩,
         ⟨(some 51), .mov (.t 9), none, 0, 0⟩,
         ⟨(some 52), .bin .and (.t 50) (.t 51), none, 0, 0⟩,
         ⟨(some 53), .indexAddr 1 (.t 47) (.t 48), none, 0, 0⟩,
         ⟨none, .store 1 (.t 53) (.t 52), none, 0, 0⟩] false)
       (.seq
        (.region [⟨(some 54), .load 1 false (.t 4), none, 0, 0⟩,
          ⟨(some 55), .mov (.t 0), none, 0, 0⟩,
          ⟨(some 56), .indexAddr 1 (.t 54) (.t 55), none, 0, 0⟩,
          ⟨(some 57), .load 1 false (.t 56), none, 0, 0⟩,
          ⟨(some 58), .mov (.t 10), none, 0, 0⟩,
          ⟨(some 59), .bin .neq (.t 57) (.t 58), none, 0, 0⟩,
          ⟨(some 8), .mov (.t 59), none, 0, 0⟩] false)
        .ret))))))), true⟩
/-- wreckage/flow.behind -/
def t36 : AFn := ⟨2, 36, [.t 4],
 (.seq
  (.region [⟨(some 4), .mov (.c (.own [] .full)), none, 0, 0⟩] false)
  (.seq
   (.seq
    (.region [⟨(some 7), .mov (.t 0), none, 0, 0⟩,
      ⟨(some 8), .mov (.t 1), none, 0, 0⟩,
      ⟨(some 9), .indexAddr 4 (.t 7) (.t 8), none, 0, 0⟩,
      ⟨(some 10), .load 4 true (.t 9), none, 0, 0⟩,
      ⟨(some 5), .alloc [(.d (.sc (.int .u8 0))), (.d (.sc (.int .i64 0))), (.d (.sc (.int .i64 0))), (.d (.sc (.int .i64 0)))], none, 0, 0⟩,
      ⟨none, .store 4 (.t 5) (.t 10), none, 0, 0⟩] false)
    (.seq
     (.region [⟨(some 11), .fieldAddr 0 (.t 5), none, 0, 0⟩,
       ⟨(some 12), .load 1 false (.t 11), none, 0, 0⟩] false)
     (.block 0
      (.seq
       (.seq
        (.region [⟨(some 14), .bin .eql (.t 12) (.c (.d (.sc (.int .u8 34)))), none, 0, 0⟩,
          ⟨(some 13), .mov (.t 14), none, 0, 0⟩] false)
        (.cond (.t 13)
         .skip
         (.seq
          (.region [⟨(some 15), .bin .eql (.t 12) (.c (.d (.sc (.int .u8 28)))), none, 0, 0⟩,
            ⟨(some 13), .mov (.t 15), none, 0, 0⟩] false)
          (.cond (.t 13)
           .skip
           (.region [⟨(some 16), .bin .eql (.t 12) (.c (.d (.sc (.int .u8 30)))), none, 0, 0⟩,
             ⟨(some 13), .mov (.t 16), none, 0, 0⟩] false)))))
       (.cond (.t 13)
        (.seq
         (.region [⟨(some 4), .mov (.c (.own [] .full)), none, 0, 0⟩] false)
         .ret)
        (.seq
         (.region [⟨(some 18), .bin .eql (.t 12) (.c (.d (.sc (.int .u8 22)))), none, 0, 0⟩,
           ⟨(some 17), .mov (.t 18), none, 0, 0⟩] false)
         (.cond (.t 17)
          (.seq
           (.region [⟨(some 19), .fieldAddr 1 (.t 5), none, 0, 0⟩,
             ⟨(some 20), .load 1 false (.t 19), none, 0, 0⟩,
             ⟨(some 21), .buildSlice 1 1 [(.sc (.int .i64 0))] [(0, (.t 20))], none, 0, 0⟩,
             ⟨(some 4), .mov (.t 21), none, 0, 0⟩] false)
           .ret)
          (.seq
           (.region [⟨(some 23), .bin .eql (.t 12) (.c (.d (.sc (.int .u8 23)))), none, 0, 0⟩,
             ⟨(some 22), .mov (.t 23), none, 0, 0⟩] false)
           (.cond (.t 22)
            (.seq
             (.region [⟨(some 24), .mov (.t 1), none, 0, 0⟩,
               ⟨(some 25), .bin .add (.t 24) (.c (.d (.sc (.int .i64 1)))), none, 0, 0⟩,
               ⟨(some 26), .fieldAddr 2 (.t 5), none, 0, 0⟩,
               ⟨(some 27), .load 1 false (.t 26), none, 0, 0⟩,
               ⟨(some 28), .buildSlice 1 2 [(.sc (.int .i64 0))] [(0, (.t 25)), (1, (.t 27))], none, 0, 1⟩,
               ⟨(some 6), .mov (.t 28), none, 0, 0⟩] false)
             (.seq
              (.region [⟨(some 29), .mov (.t 6), none, 0, 0⟩,
                ⟨(some 30), .sort (.t 29), none, 0, 0⟩] false)
              (.seq
               (.region [⟨(some 31), .mov (.t 6), none, 0, 0⟩,
                 ⟨(some 32), .compact (.t 31), none, 0, 0⟩,
                 ⟨(some 4), .mov (.t 32), none, 0, 0⟩] false)
               .ret)))
            .skip)))))))))
   (.seq
    (.region [⟨(some 33), .mov (.t 1), none, 0, 0⟩,
      ⟨(some 34), .bin .add (.t 33) (.c (.d (.sc (.int .i64 1)))), none, 0, 0⟩,
      ⟨(some 35), .buildSlice 1 1 [(.sc (.int .i64 0))] [(0, (.t 34))], none, 0, 0⟩,
      ⟨(some 4), .mov (.t 35), none, 0, 0⟩] false)
    .ret))), false⟩
/-- wreckage/flow.spread -/
def t38 : AFn := ⟨2, 42, [],
 (.seq
  (.region [⟨(some 8), .mov (.t 1), none, 0, 0⟩,
    ⟨(some 9), .callv (.t 8) [(.c (.d (.sc (.int .i64 0)))), (.c (.d (.sc (.int .i64 (-1)))))], none, 0, 0⟩] false)
  (.seq
   (.region [⟨(some 10), .buildSlice 1 1 [(.sc (.int .i64 0))] [(0, (.c (.d (.sc (.int .i64 0)))))], none, 0, 1⟩,
     ⟨(some 4), .mov (.t 10), none, 0, 0⟩] false)
   (.block 0
    (.loop
     (.seq
      (.seq
       (.region [⟨(some 11), .mov (.t 4), none, 0, 0⟩,
         ⟨(some 12), .len (.t 11), none, 0, 0⟩,
         ⟨(some 13), .bin .gtr (.t 12) (.c (.d (.sc (.int .i64 0)))), none, 0, 0⟩] false)
       (.cond (.t 13)
        .skip
        (.exit 0)))
      (.block 1
       (.seq
        (.region [⟨(some 14), .mov (.t 4), none, 0, 0⟩,
          ⟨(some 15), .mov (.t 4), none, 0, 0⟩,
          ⟨(some 16), .len (.t 15), none, 0, 0⟩,
          ⟨(some 17), .bin .sub (.t 16) (.c (.d (.sc (.int .i64 1)))), none, 0, 0⟩,
          ⟨(some 18), .indexAddr 1 (.t 14) (.t 17), none, 0, 0⟩,
          ⟨(some 19), .load 1 false (.t 18), none, 0, 0⟩,
          ⟨(some 5), .mov (.t 19), none, 0, 0⟩] false)
        (.seq
         (.region [⟨(some 20), .mov (.t 4), none, 0, 0⟩,
           ⟨(some 21), .mov (.t 4), none, 0, 0⟩,
           ⟨(some 22), .len (.t 21), none, 0, 0⟩,
           ⟨(some 23), .bin .sub (.t 22) (.c (.d (.sc (.int .i64 1)))), none, 0, 0⟩,
           ⟨(some 24), .slice 1 (.t 20) none (some (.t 23)) none, none, 0, 3⟩,
           ⟨(some 4), .mov (.t 24), none, 0, 0⟩] false)
         (.seq
          (.region [⟨(some 25), .mov (.t 0), none, 0, 0⟩,
            ⟨(some 26), .mov (.t 5), none, 0, 0⟩,
            ⟨(some 27), .call 36 [(.t 25), (.t 26)], none, 0, 0⟩,
            ⟨(some 28), .len (.t 27), none, 0, 0⟩,
            ⟨(some 29), .mov (.c (.d (.sc (.int .i64 0)))), none, 0, 0⟩] false)
          (.block 2
           (.loop
            (.seq
             (.region [⟨(some 30), .bin .lss (.t 29) (.t 28), none, 0, 0⟩] false)
             (.seq
              (.cond (.t 30)
               .skip
               (.exit 2))
              (.seq
               (.block 3
                (.seq
                 (.region [⟨(some 31), .indexAddr 1 (.t 27) (.t 29), none, 0, 0⟩,
                   ⟨(some 32), .load 1 false (.t 31), none, 0, 0⟩,
                   ⟨(some 7), .mov (.t 32), none, 0, 0⟩] false)
                 (.seq
                  (.region [⟨(some 33), .mov (.t 1), none, 0, 0⟩,
                    ⟨(some 34), .mov (.t 7), none, 0, 0⟩,
                    ⟨(some 35), .mov (.t 5), none, 0, 0⟩,
                    ⟨(some 36), .callv (.t 33) [(.t 34), (.t 35)], none, 0, 0⟩] false)
                  (.cond (.t 36)
                   (.region [⟨(some 37), .mov (.t 4), none, 0, 0⟩,
                     ⟨(some 38), .mov (.t 7), none, 0, 0⟩,
                     ⟨(some 39), .buildSlice 1 1 [(.sc (.int .i64 0))] [(0, (.t 38))], none, 0, 0⟩,
                     ⟨(some 40), .append 1 8 (.t 37) (.t 39), none, 0, 1⟩,
                     ⟨(some 4), .mov (.t 40), none, 0, 0⟩] false)
                   .skip))))
               (.region [⟨(some 41), .bin .add (.t 29) (.c (.d (.sc (.int .i64 1)))), none, 0, 0⟩,
                 ⟨(some 29), .mov (.t 41), none, 0, 0⟩] false))))))))))))))), true⟩
/-- wreckage/flow.Masks -/
def t23 : AFn := ⟨3, 87, [.t 6, .t 7],
 (.seq
  (.region [⟨(some 4), .box (.t 1), none, 0, 0⟩,
    ⟨(some 6), .mov (.c (.own [] .full)), none, 0, 0⟩,
    ⟨(some 7), .mov (.c (.d (.sc (.int .i64 0)))), none, 0, 0⟩] false)
  (.seq
   (.seq
    (.region [⟨(some 17), .mov (.t 0), none, 0, 0⟩,
      ⟨(some 18), .callF 15 [(.t 17)], none, 0, 0⟩,
      ⟨(some 8), .mov (.t 18), none, 0, 0⟩] false)
    (.seq
     (.region [⟨(some 19), .mov (.t 8), none, 0, 0⟩,
       ⟨(some 20), .bin .neq (.t 19) (.c (.d (.sc (.int .i64 0)))), none, 0, 0⟩] false)
     (.cond (.t 20)
      (.seq
       (.region [⟨(some 21), .mov (.t 8), none, 0, 0⟩,
         ⟨(some 6), .mov (.c (.own [] .full)), none, 0, 0⟩,
         ⟨(some 7), .mov (.t 21), none, 0, 0⟩] false)
       .ret)
      .skip)))
   (.seq
    (.seq
     (.region [⟨(some 22), .mov (.t 2), none, 0, 0⟩,
       ⟨(some 23), .bin .lss (.t 22) (.c (.d (.sc (.int .i64 0)))), none, 0, 0⟩,
       ⟨(some 24), .mov (.t 23), none, 0, 0⟩,
       ⟨(some 25), .mov (.t 2), (some (24, false)), 0, 0⟩,
       ⟨(some 26), .bin .gtr (.t 25) (.c (.d (.sc (.int .i64 16)))), (some (24, false)), 0, 0⟩,
       ⟨(some 27), .pick (.t 24) (.c (.d (.sc (.bool true)))) (.t 26), none, 0, 0⟩,
       ⟨(some 28), .mov (.t 27), none, 0, 0⟩,
       ⟨(some 29), .load 1 false (.t 4), (some (28, false)), 0, 0⟩,
       ⟨(some 30), .bin .lss (.t 29) (.c (.d (.sc (.int .i64 0)))), (some (28, false)), 0, 0⟩,
       ⟨(some 31), .pick (.t 28) (.c (.d (.sc (.bool true)))) (.t 30), none, 0, 0⟩,
       ⟨(some 32), .mov (.t 31), none, 0, 0⟩,
       ⟨(some 33), .load 1 false (.t 4), (some (32, false)), 0, 0⟩,
       ⟨(some 34), .mov (.t 2), (some (32, false)), 0, 0⟩,
       ⟨(some 35), .bin .gtr (.t 33) (.t 34), (some (32, false)), 0, 0⟩,
       ⟨(some 36), .pick (.t 32) (.c (.d (.sc (.bool true)))) (.t 35), none, 0, 0⟩] false)
     (.cond (.t 36)
      (.seq
       (.region [⟨(some 6), .mov (.c (.own [] .full)), none, 0, 0⟩,
         ⟨(some 7), .mov (.c (.d (.sc (.int .i64 2)))), none, 0, 0⟩] false)
       .ret)
      .skip))
    (.seq
     (.region [⟨(some 37), .mov (.t 0), none, 0, 0⟩,
       ⟨(some 38), .len (.t 37), none, 0, 0⟩,
       ⟨(some 39), .makeSlice 1 8 [(.sc (.int .u64 0))] (.t 38) (.t 38), none, 0, 1⟩,
       ⟨(some 9), .alloc [(.own [] .full)], none, 0, 0⟩,
       ⟨none, .store 1 (.t 9) (.t 39), none, 0, 0⟩] false)
     (.seq
      (.seq
       (.region [⟨(some 40), .mov (.t 0), none, 0, 0⟩,
         ⟨(some 41), .len (.t 40), none, 0, 0⟩,
         ⟨(some 42), .mov (.c (.d (.sc (.int .i64 0)))), none, 0, 0⟩] false)
       (.block 0
        (.loop
         (.seq
          (.region [⟨(some 43), .bin .lss (.t 42) (.t 41), none, 0, 0⟩] false)
          (.seq
           (.cond (.t 43)
            .skip
            (.exit 0))
           (.seq
            (.block 1
             (.seq
              (.region [⟨(some 44), .mov (.t 42), none, 0, 0⟩,
                ⟨(some 45), .indexAddr 4 (.t 40) (.t 42), none, 0, 0⟩,
                ⟨(some 46), .load 4 true (.t 45), none, 0, 0⟩,
                ⟨(some 11), .alloc [(.d (.sc (.int .u8 0))), (.d (.sc (.int .i64 0))), (.d (.sc (.int .i64 0))), (.d (.sc (.int .i64 0)))], none, 0, 0⟩,
                ⟨(some 10), .mov (.t 44), none, 0, 0⟩,
                ⟨none, .store 4 (.t 11) (.t 46), none, 0, 0⟩] false)
              (.seq
               (.region [⟨(some 48), .load 4 true (.t 11), none, 0, 0⟩,
                 ⟨(some 49), .call 44 [(.t 48)], none, 0, 0⟩,
                 ⟨(some 47), .mov (.t 49), none, 0, 0⟩,
                 ⟨(some 50), .extract (.t 47) 0, none, 0, 0⟩,
                 ⟨(some 51), .extract (.t 47) 1, none, 0, 0⟩,
                 ⟨(some 52), .extract (.t 47) 2, none, 0, 0⟩,
                 ⟨(some 12), .mov (.t 50), none, 0, 0⟩,
                 ⟨(some 13), .mov (.t 51), none, 0, 0⟩,
                 ⟨(some 14), .mov (.t 52), none, 0, 0⟩] false)
               (.seq
                (.seq
                 (.region [⟨(some 53), .mov (.t 14), none, 0, 0⟩,
                   ⟨(some 54), .bin .neq (.t 53) (.c (.d (.sc (.int .i64 0)))), none, 0, 0⟩] false)
                 (.cond (.t 54)
                  (.seq
                   (.region [⟨(some 55), .mov (.t 14), none, 0, 0⟩,
                     ⟨(some 6), .mov (.c (.own [] .full)), none, 0, 0⟩,
                     ⟨(some 7), .mov (.t 55), none, 0, 0⟩] false)
                   .ret)
                  .skip))
                (.seq
                 (.region [⟨(some 56), .load 1 false (.t 9), none, 0, 0⟩,
                   ⟨(some 57), .mov (.t 10), none, 0, 0⟩,
                   ⟨(some 58), .mov (.t 13), none, 0, 0⟩,
                   ⟨(some 59), .callF 45 [(.t 58)], none, 4, 0⟩,
                   ⟨(some 60), .indexAddr 1 (.t 56) (.t 57), none, 15, 0⟩,
                   ⟨none, .store 1 (.t 60) (.t 59), none, 31, 0⟩] true)
                 (.seq
                  (.region [⟨(some 61), .mov (.t 12), none, 0, 0⟩,
                    ⟨(some 62), .callF 45 [(.t 61)], none, 1, 0⟩,
                    ⟨(some 63), .load 1 false (.t 9), none, 0, 0⟩,
                    ⟨(some 64), .mov (.t 10), none, 0, 0⟩,
                    ⟨(some 65), .indexAddr 1 (.t 63) (.t 64), none, 12, 0⟩,
                    ⟨(some 66), .load 1 false (.t 65), none, 28, 0⟩,
                    ⟨(some 67), .bin .or (.t 62) (.t 66), none, 63, 0⟩,
                    ⟨(some 68), .mov (.t 2), none, 0, 0⟩,
                    ⟨(some 69), .bin .shr (.t 67) (.t 68), none, 255, 0⟩,
                    ⟨(some 70), .bin .neq (.t 69) (.c (.d (.sc (.int .u64 0)))), none, 511, 0⟩] true)
                  (.cond (.t 70)
                   (.seq
                    (.region [⟨(some 6), .mov (.c (.own [] .full)), none, 0, 0⟩,
                      ⟨(some 7), .mov (.c (.d (.sc (.int .i64 16)))), none, 0, 0⟩] false)
                    .ret)
                   .skip)))))))
            (.region [⟨(some 71), .bin .add (.t 42) (.c (.d (.sc (.int .i64 1)))), none, 0, 0⟩,
              ⟨(some 42), .mov (.t 71), none, 0, 0⟩] false)))))))
      (.seq
       (.region [⟨(some 72), .mov (.t 0), none, 0, 0⟩,
         ⟨(some 73), .len (.t 72), none, 1, 0⟩,
         ⟨(some 74), .makeSlice 1 8 [(.sc (.int .u64 0))] (.t 73) (.t 73), none, 3, 1⟩,
         ⟨(some 75), .mov (.t 0), none, 0, 0⟩,
         ⟨(some 76), .len (.t 75), none, 8, 0⟩,
         ⟨(some 77), .makeSlice 1 1 [(.sc (.bool false))] (.t 76) (.t 76), none, 24, 0⟩,
         ⟨(some 15), .alloc [(.own [] .full)], none, 0, 0⟩,
         ⟨(some 16), .alloc [(.own [] .full)], none, 0, 0⟩,
         ⟨none, .store 1 (.t 15) (.t 74), none, 199, 0⟩,
         ⟨none, .store 1 (.t 16) (.t 77), none, 511, 0⟩] true)
       (.seq
        (.region [⟨(some 78), .mov (.t 0), none, 0, 0⟩,
          ⟨(some 79), .makeFunc 46 [(.t 4), (.t 16), (.t 15), (.t 9)], none, 0, 0⟩,
          ⟨(some 80), .callF 38 [(.t 78), (.t 79)], none, 0, 0⟩] false)
        (.seq
         (.region [⟨(some 81), .load 1 false (.t 15), none, 0, 0⟩,
           ⟨(some 82), .load 1 false (.t 15), none, 0, 0⟩,
           ⟨(some 83), .len (.t 82), none, 0, 0⟩,
           ⟨(some 84), .bin .sub (.t 83) (.c (.d (.sc (.int .i64 1)))), none, 0, 0⟩,
           ⟨(some 85), .indexAddr 1 (.t 81) (.t 84), none, 0, 0⟩,
           ⟨none, .store 1 (.t 85) (.c (.d (.sc (.int .u64 0)))), none, 0, 0⟩] false)
         (.seq
          (.region [⟨(some 86), .load 1 false (.t 15), none, 0, 0⟩,
            ⟨(some 6), .mov (.t 86), none, 0, 0⟩,
            ⟨(some 7), .mov (.c (.d (.sc (.int .i64 0)))), none, 0, 0⟩] false)
          .ret))))))))), false⟩
/-- wreckage/wreckageref07.SameMasks -/
def t31 : AFn := ⟨2, 26, [.t 4],
 (.seq
  (.region [⟨(some 4), .mov (.c (.d (.sc (.bool false)))), none, 0, 0⟩] false)
  (.seq
   (.seq
    (.region [⟨(some 6), .mov (.t 0), none, 0, 0⟩,
      ⟨(some 7), .len (.t 6), none, 0, 0⟩,
      ⟨(some 8), .mov (.t 1), none, 0, 0⟩,
      ⟨(some 9), .len (.t 8), none, 0, 0⟩,
      ⟨(some 10), .bin .neq (.t 7) (.t 9), none, 0, 0⟩] false)
    (.cond (.t 10)
     (.seq
      (.region [⟨(some 4), .mov (.c (.d (.sc (.bool false)))), none, 0, 0⟩] false)
      .ret)
     .skip))
   (.seq
    (.seq
     (.region [⟨(some 5), .mov (.c (.d (.sc (.int .i64 0)))), none, 0, 0⟩] false)
     (.block 0
      (.loop
       (.seq
        (.seq
         (.region [⟨(some 11), .mov (.t 5), none, 0, 0⟩,
           ⟨(some 12), .mov (.t 0), none, 0, 0⟩,
           ⟨(some 13), .len (.t 12), none, 0, 0⟩,
           ⟨(some 14), .bin .lss (.t 11) (.t 13), none, 0, 0⟩] false)
         (.cond (.t 14)
          .skip
          (.exit 0)))
        (.seq
         (.block 1
          (.seq
           (.region [⟨(some 17), .mov (.t 0), none, 0, 0⟩,
             ⟨(some 18), .mov (.t 5), none, 0, 0⟩,
             ⟨(some 19), .indexAddr 1 (.t 17) (.t 18), none, 3, 0⟩,
             ⟨(some 20), .load 1 false (.t 19), none, 7, 0⟩,
             ⟨(some 21), .mov (.t 1), none, 0, 0⟩,
             ⟨(some 22), .mov (.t 5), none, 0, 0⟩,
             ⟨(some 23), .indexAddr 1 (.t 21) (.t 22), none, 48, 0⟩,
             ⟨(some 24), .load 1 false (.t 23), none, 112, 0⟩,
             ⟨(some 25), .bin .neq (.t 20) (.t 24), none, 255, 0⟩] true)
           (.cond (.t 25)
            (.seq
             (.region [⟨(some 4), .mov (.c (.d (.sc (.bool false)))), none, 0, 0⟩] false)
             .ret)
            .skip)))
         (.region [⟨(some 15), .mov (.t 5), none, 0, 0⟩,
           ⟨(some 16), .bin .add (.t 15) (.c (.d (.sc (.int .i64 1)))), none, 0, 0⟩,
           ⟨(some 5), .mov (.t 16), none, 0, 0⟩] false))))))
    (.seq
     (.region [⟨(some 4), .mov (.c (.d (.sc (.bool true)))), none, 0, 0⟩] false)
     .ret)))), false⟩
/-- wreckage/wreckagelaw07.alive -/
def t22 : AFn := ⟨0, 33, [.t 0],
 (.seq
  (.region [⟨(some 0), .mov (.c (.d (.sc (.bool false)))), none, 0, 0⟩] false)
  (.seq
   (.region [⟨(some 6), .build [(.d (.sc (.int .u8 0))), (.d (.sc (.int .i64 0))), (.d (.sc (.int .i64 0))), (.d (.sc (.int .i64 0)))] [(0, 1, (.c (.d (.sc (.int .u8 4))))), (1, 1, (.c (.d (.sc (.int .i64 1)))))], none, 0, 0⟩,
     ⟨(some 7), .call 43 [(.t 6)], none, 0, 0⟩,
     ⟨(some 8), .call 23 [(.t 7), (.c (.d (.sc (.int .i64 1)))), (.c (.d (.sc (.int .i64 3))))], none, 0, 0⟩,
     ⟨(some 5), .mov (.t 8), none, 0, 0⟩,
     ⟨(some 9), .extract (.t 5) 0, none, 0, 0⟩,
     ⟨(some 10), .extract (.t 5) 1, none, 0, 0⟩,
     ⟨(some 1), .mov (.t 9), none, 0, 0⟩,
     ⟨(some 2), .mov (.t 10), none, 0, 0⟩] false)
   (.seq
    (.region [⟨(some 12), .build [(.d (.sc (.int .u8 0))), (.d (.sc (.int .i64 0))), (.d (.sc (.int .i64 0))), (.d (.sc (.int .i64 0)))] [(0, 1, (.c (.d (.sc (.int .u8 31)))))], none, 0, 0⟩,
      ⟨(some 13), .call 43 [(.t 12)], none, 0, 0⟩,
      ⟨(some 14), .call 23 [(.t 13), (.c (.d (.sc (.int .i64 1)))), (.c (.d (.sc (.int .i64 3))))], none, 0, 0⟩,
      ⟨(some 11), .mov (.t 14), none, 0, 0⟩,
      ⟨(some 15), .extract (.t 11) 0, none, 0, 0⟩,
      ⟨(some 16), .extract (.t 11) 1, none, 0, 0⟩,
      ⟨(some 3), .mov (.t 15), none, 0, 0⟩,
      ⟨(some 4), .mov (.t 16), none, 0, 0⟩] false)
    (.seq
     (.region [⟨(some 17), .mov (.t 2), none, 0, 0⟩,
       ⟨(some 18), .bin .eql (.t 17) (.c (.d (.sc (.int .i64 0)))), none, 0, 0⟩,
       ⟨(some 19), .mov (.t 18), none, 0, 0⟩,
       ⟨(some 20), .mov (.t 1), (some (19, true)), 0, 0⟩,
       ⟨(some 21), .buildSlice 1 6 [(.sc (.int .u64 0))] [(0, (.c (.d (.sc (.int .u64 1))))), (1, (.c (.d (.sc (.int .u64 1))))), (2, (.c (.d (.sc (.int .u64 3))))), (3, (.c (.d (.sc (.int .u64 1))))), (4, (.c (.d (.sc (.int .u64 3))))), (5, (.c (.d (.sc (.int .u64 0)))))], (some (19, true)), 0, 2⟩,
       ⟨(some 22), .callF 31 [(.t 20), (.t 21)], (some (19, true)), 0, 0⟩,
       ⟨(some 23), .pick (.t 19) (.t 22) (.c (.d (.sc (.bool false)))), none, 0, 0⟩,
       ⟨(some 24), .mov (.t 23), none, 0, 0⟩,
       ⟨(some 25), .mov (.t 4), (some (24, true)), 0, 0⟩,
       ⟨(some 26), .bin .eql (.t 25) (.c (.d (.sc (.int .i64 0)))), (some (24, true)), 0, 0⟩,
       ⟨(some 27), .pick (.t 24) (.t 26) (.c (.d (.sc (.bool false)))), none, 0, 0⟩,
       ⟨(some 28), .mov (.t 27), none, 0, 0⟩,
       ⟨(some 29), .mov (.t 3), (some (28, true)), 0, 0⟩,
       ⟨(some 30), .buildSlice 1 6 [(.sc (.int .u64 0))] [(0, (.c (.d (.sc (.int .u64 1))))), (1, (.c (.d (.sc (.int .u64 1))))), (2, (.c (.d (.sc (.int .u64 3))))), (3, (.c (.d (.sc (.int .u64 1))))), (4, (.c (.d (.sc (.int .u64 1))))), (5, (.c (.d (.sc (.int .u64 0)))))], (some (28, true)), 0, 2⟩,
       ⟨(some 31), .callF 31 [(.t 29), (.t 30)], (some (28, true)), 0, 0⟩,
       ⟨(some 32), .pick (.t 28) (.t 31) (.c (.d (.sc (.bool false)))), none, 0, 0⟩,
       ⟨(some 0), .mov (.t 32), none, 0, 0⟩] false)
     .ret)))), false⟩
/-- wreckage/flow.Reached$1 -/
def t39 : AFn := ⟨3, 16, [.t 5],
 (.seq
  (.region [⟨(some 5), .mov (.c (.d (.sc (.bool false)))), none, 0, 0⟩] false)
  (.seq
   (.region [⟨(some 7), .load 1 false (.t 2), none, 0, 0⟩,
     ⟨(some 8), .mov (.t 0), none, 0, 0⟩,
     ⟨(some 9), .indexAddr 1 (.t 7) (.t 8), none, 0, 0⟩,
     ⟨(some 10), .load 1 false (.t 9), none, 0, 0⟩,
     ⟨(some 6), .mov (.t 10), none, 0, 0⟩] false)
   (.seq
    (.region [⟨(some 11), .load 1 false (.t 2), none, 0, 0⟩,
      ⟨(some 12), .mov (.t 0), none, 0, 0⟩,
      ⟨(some 13), .indexAddr 1 (.t 11) (.t 12), none, 0, 0⟩,
      ⟨none, .store 1 (.t 13) (.c (.d (.sc (.bool true)))), none, 0, 0⟩] false)
    (.seq
     (.region [⟨(some 14), .mov (.t 6), none, 0, 0⟩,
       ⟨(some 15), .un .not (.t 14), none, 0, 0⟩,
       ⟨(some 5), .mov (.t 15), none, 0, 0⟩] false)
     .ret)))), true⟩
/-- wreckage/flow.Reached -/
def t13 : AFn := ⟨1, 23, [.t 2, .t 3],
 (.seq
  (.region [⟨(some 2), .mov (.c (.own [] .full)), none, 0, 0⟩,
    ⟨(some 3), .mov (.c (.d (.sc (.int .i64 0)))), none, 0, 0⟩] false)
  (.seq
   (.seq
    (.region [⟨(some 6), .mov (.t 0), none, 0, 0⟩,
      ⟨(some 7), .callF 15 [(.t 6)], none, 0, 0⟩,
      ⟨(some 4), .mov (.t 7), none, 0, 0⟩] false)
    (.seq
     (.region [⟨(some 8), .mov (.t 4), none, 0, 0⟩,
       ⟨(some 9), .bin .neq (.t 8) (.c (.d (.sc (.int .i64 0)))), none, 0, 0⟩] false)
     (.cond (.t 9)
      (.seq
       (.region [⟨(some 10), .mov (.t 4), none, 0, 0⟩,
         ⟨(some 2), .mov (.c (.own [] .full)), none, 0, 0⟩,
         ⟨(some 3), .mov (.t 10), none, 0, 0⟩] false)
       .ret)
      .skip)))
   (.seq
    (.region [⟨(some 11), .mov (.t 0), none, 0, 0⟩,
      ⟨(some 12), .len (.t 11), none, 0, 0⟩,
      ⟨(some 13), .makeSlice 1 1 [(.sc (.bool false))] (.t 12) (.t 12), none, 0, 1⟩,
      ⟨(some 5), .alloc [(.own [] .full)], none, 0, 0⟩,
      ⟨none, .store 1 (.t 5) (.t 13), none, 0, 0⟩] false)
    (.seq
     (.region [⟨(some 14), .mov (.t 0), none, 0, 0⟩,
       ⟨(some 15), .makeFunc 39 [(.t 5)], none, 0, 0⟩,
       ⟨(some 16), .callF 38 [(.t 14), (.t 15)], none, 0, 0⟩] false)
     (.seq
      (.region [⟨(some 17), .load 1 false (.t 5), none, 0, 0⟩,
        ⟨(some 18), .load 1 false (.t 5), none, 0, 0⟩,
        ⟨(some 19), .len (.t 18), none, 0, 0⟩,
        ⟨(some 20), .bin .sub (.t 19) (.c (.d (.sc (.int .i64 1)))), none, 0, 0⟩,
        ⟨(some 21), .indexAddr 1 (.t 17) (.t 20), none, 0, 0⟩,
        ⟨none, .store 1 (.t 21) (.c (.d (.sc (.bool true)))), none, 0, 0⟩] false)
      (.seq
       (.region [⟨(some 22), .load 1 false (.t 5), none, 0, 0⟩,
         ⟨(some 2), .mov (.t 22), none, 0, 0⟩,
         ⟨(some 3), .mov (.c (.d (.sc (.int .i64 0)))), none, 0, 0⟩] false)
       .ret)))))), false⟩
/-- slices.IndexFunc[[]int,int] -/
def t60 : AFn := ⟨2, 19, [.t 4],
 (.seq
  (.region [⟨(some 4), .mov (.c (.d (.sc (.int .i64 0)))), none, 0, 0⟩] false)
  (.seq
   (.seq
    (.region [⟨(some 6), .mov (.t 0), none, 0, 0⟩,
      ⟨(some 7), .len (.t 6), none, 0, 0⟩,
      ⟨(some 8), .mov (.c (.d (.sc (.int .i64 0)))), none, 0, 0⟩] false)
    (.block 0
     (.loop
      (.seq
       (.region [⟨(some 9), .bin .lss (.t 8) (.t 7), none, 0, 0⟩] false)
       (.seq
        (.cond (.t 9)
         .skip
         (.exit 0))
        (.seq
         (.block 1
          (.seq
           (.region [⟨(some 10), .mov (.t 8), none, 0, 0⟩,
             ⟨(some 5), .mov (.t 10), none, 0, 0⟩] false)
           (.seq
            (.region [⟨(some 11), .mov (.t 1), none, 0, 0⟩,
              ⟨(some 12), .mov (.t 0), none, 0, 0⟩,
              ⟨(some 13), .mov (.t 5), none, 0, 0⟩,
              ⟨(some 14), .indexAddr 1 (.t 12) (.t 13), none, 0, 0⟩,
              ⟨(some 15), .load 1 false (.t 14), none, 0, 0⟩,
              ⟨(some 16), .callv (.t 11) [(.t 15)], none, 0, 0⟩] false)
            (.cond (.t 16)
             (.seq
              (.region [⟨(some 17), .mov (.t 5), none, 0, 0⟩,
                ⟨(some 4), .mov (.t 17), none, 0, 0⟩] false)
              .ret)
             .skip))))
         (.region [⟨(some 18), .bin .add (.t 8) (.c (.d (.sc (.int .i64 1)))), none, 0, 0⟩,
           ⟨(some 8), .mov (.t 18), none, 0, 0⟩] false)))))))
   (.seq
    (.region [⟨(some 4), .mov (.c (.d (.sc (.int .i64 (-1))))), none, 0, 0⟩] false)
    .ret))), true⟩
/-- slices.ContainsFunc[[]int,int] -/
def t48 : AFn := ⟨2, 9, [.t 4],
 (.seq
  (.region [⟨(some 4), .mov (.c (.d (.sc (.bool false)))), none, 0, 0⟩] false)
  (.seq
   (.region [⟨(some 5), .mov (.t 0), none, 0, 0⟩,
     ⟨(some 6), .mov (.t 1), none, 0, 0⟩,
     ⟨(some 7), .callF 60 [(.t 5), (.t 6)], none, 0, 0⟩,
     ⟨(some 8), .bin .geq (.t 7) (.c (.d (.sc (.int .i64 0)))), none, 0, 0⟩,
     ⟨(some 4), .mov (.t 8), none, 0, 0⟩] false)
   .ret)), true⟩
/-- wreckage/flow.Depths$1 -/
def t49 : AFn := ⟨1, 9, [.t 2],
 (.seq
  (.region [⟨(some 2), .mov (.c (.d (.sc (.bool false)))), none, 0, 0⟩] false)
  (.seq
   (.region [⟨(some 3), .mov (.t 0), none, 0, 0⟩,
     ⟨(some 4), .bin .lss (.t 3) (.c (.d (.sc (.int .i64 (-4096))))), none, 0, 0⟩,
     ⟨(some 5), .mov (.t 4), none, 0, 0⟩,
     ⟨(some 6), .mov (.t 0), (some (5, false)), 0, 0⟩,
     ⟨(some 7), .bin .gtr (.t 6) (.c (.d (.sc (.int .i64 4096)))), (some (5, false)), 0, 0⟩,
     ⟨(some 8), .pick (.t 5) (.c (.d (.sc (.bool true)))) (.t 7), none, 0, 0⟩,
     ⟨(some 2), .mov (.t 8), none, 0, 0⟩] false)
   .ret)), false⟩
/-- wreckage/flow.Depths$2 -/
def t50 : AFn := ⟨6, 56, [.t 8],
 (.seq
  (.region [⟨(some 8), .mov (.c (.d (.sc (.bool false)))), none, 0, 0⟩] false)
  (.seq
   (.region [⟨(some 9), .mov (.c (.d (.sc (.int .i64 0)))), none, 0, 0⟩] false)
   (.seq
    (.seq
     (.region [⟨(some 10), .mov (.t 1), none, 0, 0⟩,
       ⟨(some 11), .bin .geq (.t 10) (.c (.d (.sc (.int .i64 0)))), none, 0, 0⟩] false)
     (.cond (.t 11)
      (.region [⟨(some 12), .load 1 false (.t 2), none, 0, 0⟩,
        ⟨(some 13), .mov (.t 1), none, 0, 0⟩,
        ⟨(some 14), .indexAddr 1 (.t 12) (.t 13), none, 3, 0⟩,
        ⟨(some 15), .load 1 false (.t 14), none, 7, 0⟩,
        ⟨(some 16), .load 1 false (.t 3), none, 0, 0⟩,
        ⟨(some 17), .mov (.t 1), none, 0, 0⟩,
        ⟨(some 18), .indexAddr 1 (.t 16) (.t 17), none, 48, 0⟩,
        ⟨(some 19), .load 1 false (.t 18), none, 112, 0⟩,
        ⟨(some 20), .bin .add (.t 15) (.t 19), none, 255, 0⟩,
        ⟨(some 9), .mov (.t 20), none, 511, 0⟩] true)
      .skip))
    (.seq
     (.seq
      (.region [⟨(some 21), .mov (.t 9), none, 0, 0⟩,
        ⟨(some 22), .bin .lss (.t 21) (.c (.d (.sc (.int .i64 0)))), none, 0, 0⟩,
        ⟨(some 23), .mov (.t 22), none, 0, 0⟩,
        ⟨(some 24), .mov (.t 9), (some (23, false)), 0, 0⟩,
        ⟨(some 25), .bin .gtr (.t 24) (.c (.d (.sc (.int .i64 4096)))), (some (23, false)), 0, 0⟩,
        ⟨(some 26), .pick (.t 23) (.c (.d (.sc (.bool true)))) (.t 25), none, 0, 0⟩,
        ⟨(some 27), .mov (.t 26), none, 0, 0⟩,
        ⟨(some 28), .load 1 false (.t 4), (some (27, false)), 0, 0⟩,
        ⟨(some 29), .mov (.t 0), (some (27, false)), 0, 0⟩,
        ⟨(some 30), .indexAddr 1 (.t 28) (.t 29), (some (27, false)), 0, 0⟩,
        ⟨(some 31), .load 1 false (.t 30), (some (27, false)), 0, 0⟩,
        ⟨(some 32), .mov (.t 31), (some (27, false)), 0, 0⟩,
        ⟨(some 33), .load 1 false (.t 2), (some (32, true)), 0, 0⟩,
        ⟨(some 34), .mov (.t 0), (some (32, true)), 0, 0⟩,
        ⟨(some 35), .indexAddr 1 (.t 33) (.t 34), (some (32, true)), 0, 0⟩,
        ⟨(some 36), .load 1 false (.t 35), (some (32, true)), 0, 0⟩,
        ⟨(some 37), .mov (.t 9), (some (32, true)), 0, 0⟩,
        ⟨(some 38), .bin .neq (.t 36) (.t 37), (some (32, true)), 0, 0⟩,
        ⟨(some 39), .pick (.t 32) (.t 38) (.c (.d (.sc (.bool false)))), (some (27, false)), 0, 0⟩,
        ⟨(some 40), .pick (.t 27) (.c (.d (.sc (.bool true)))) (.t 39), none, 0, 0⟩] false)
      (.cond (.t 40)
       (.region [⟨none, .store 1 (.t 5) (.c (.d (.sc (.bool false)))), none, 0, 0⟩] false)
       .skip))
     (.seq
      (.seq
       (.region [⟨(some 41), .load 1 false (.t 4), none, 0, 0⟩,
         ⟨(some 42), .mov (.t 0), none, 0, 0⟩,
         ⟨(some 43), .indexAddr 1 (.t 41) (.t 42), none, 0, 0⟩,
         ⟨(some 44), .load 1 false (.t 43), none, 0, 0⟩,
         ⟨(some 45), .mov (.t 44), none, 0, 0⟩,
         ⟨(some 46), .load 1 false (.t 5), (some (45, false)), 0, 0⟩,
         ⟨(some 47), .un .not (.t 46), (some (45, false)), 0, 0⟩,
         ⟨(some 48), .pick (.t 45) (.c (.d (.sc (.bool true)))) (.t 47), none, 0, 0⟩] false)
       (.cond (.t 48)
        (.seq
         (.region [⟨(some 8), .mov (.c (.d (.sc (.bool false)))), none, 0, 0⟩] false)
         .ret)
        .skip))
      (.seq
       (.region [⟨(some 49), .load 1 false (.t 4), none, 0, 0⟩,
         ⟨(some 50), .mov (.t 0), none, 0, 0⟩,
         ⟨(some 51), .load 1 false (.t 2), none, 0, 0⟩,
         ⟨(some 52), .mov (.t 0), none, 0, 0⟩,
         ⟨(some 53), .mov (.t 9), none, 0, 0⟩,
         ⟨(some 54), .indexAddr 1 (.t 49) (.t 50), none, 3, 0⟩,
         ⟨none, .store 1 (.t 54) (.c (.d (.sc (.bool true)))), none, 35, 0⟩,
         ⟨(some 55), .indexAddr 1 (.t 51) (.t 52), none, 127, 0⟩,
         ⟨none, .store 1 (.t 55) (.t 53), none, 255, 0⟩] true)
       (.seq
        (.region [⟨(some 8), .mov (.c (.d (.sc (.bool true)))), none, 0, 0⟩] false)
        .ret))))))), true⟩
/-- wreckage/flow.Depths -/
def t29 : AFn := ⟨2, 45, [.t 4, .t 5],
 (.seq
  (.region [⟨(some 3), .box (.t 1), none, 0, 0⟩,
    ⟨(some 4), .mov (.c (.own [] .full)), none, 0, 0⟩,
    ⟨(some 5), .mov (.c (.d (.sc (.int .i64 0)))), none, 0, 0⟩] false)
  (.seq
   (.seq
    (.region [⟨(some 10), .mov (.t 0), none, 0, 0⟩,
      ⟨(some 11), .callF 15 [(.t 10)], none, 0, 0⟩,
      ⟨(some 6), .mov (.t 11), none, 0, 0⟩] false)
    (.seq
     (.region [⟨(some 12), .mov (.t 6), none, 0, 0⟩,
       ⟨(some 13), .bin .neq (.t 12) (.c (.d (.sc (.int .i64 0)))), none, 0, 0⟩] false)
     (.cond (.t 13)
      (.seq
       (.region [⟨(some 14), .mov (.t 6), none, 0, 0⟩,
         ⟨(some 4), .mov (.c (.own [] .full)), none, 0, 0⟩,
         ⟨(some 5), .mov (.t 14), none, 0, 0⟩] false)
       .ret)
      .skip)))
   (.seq
    (.seq
     (.region [⟨(some 15), .load 1 false (.t 3), none, 0, 0⟩,
       ⟨(some 16), .len (.t 15), none, 0, 0⟩,
       ⟨(some 17), .mov (.t 0), none, 0, 0⟩,
       ⟨(some 18), .len (.t 17), none, 0, 0⟩,
       ⟨(some 19), .bin .neq (.t 16) (.t 18), none, 0, 0⟩,
       ⟨(some 20), .mov (.t 19), none, 0, 0⟩,
       ⟨(some 21), .load 1 false (.t 3), (some (20, false)), 0, 0⟩,
       ⟨(some 22), .callF 48 [(.t 21), (.c (.clo 49 []))], (some (20, false)), 0, 0⟩,
       ⟨(some 23), .pick (.t 20) (.c (.d (.sc (.bool true)))) (.t 22), none, 0, 0⟩] false)
     (.cond (.t 23)
      (.seq
       (.region [⟨(some 4), .mov (.c (.own [] .full)), none, 0, 0⟩,
         ⟨(some 5), .mov (.c (.d (.sc (.int .i64 2)))), none, 0, 0⟩] false)
       .ret)
      .skip))
    (.seq
     (.region [⟨(some 24), .mov (.t 0), none, 0, 0⟩,
       ⟨(some 25), .len (.t 24), none, 1, 0⟩,
       ⟨(some 26), .makeSlice 1 8 [(.sc (.int .i64 0))] (.t 25) (.t 25), none, 3, 0⟩,
       ⟨(some 27), .mov (.t 0), none, 0, 0⟩,
       ⟨(some 28), .len (.t 27), none, 8, 0⟩,
       ⟨(some 29), .makeSlice 1 1 [(.sc (.bool false))] (.t 28) (.t 28), none, 24, 0⟩,
       ⟨(some 7), .alloc [(.own [] .full)], none, 0, 0⟩,
       ⟨(some 8), .alloc [(.own [] .full)], none, 0, 0⟩,
       ⟨(some 9), .alloc [(.d (.sc (.bool false)))], none, 0, 0⟩,
       ⟨none, .store 1 (.t 7) (.t 26), none, 455, 0⟩,
       ⟨none, .store 1 (.t 8) (.t 29), none, 1023, 0⟩,
       ⟨none, .store 1 (.t 9) (.c (.d (.sc (.bool true)))), none, 2047, 0⟩] true)
     (.seq
      (.region [⟨(some 30), .mov (.t 0), none, 0, 0⟩,
        ⟨(some 31), .makeFunc 50 [(.t 7), (.t 3), (.t 8), (.t 9)], none, 0, 0⟩,
        ⟨(some 32), .callF 38 [(.t 30), (.t 31)], none, 0, 0⟩] false)
      (.seq
       (.seq
        (.region [⟨(some 33), .load 1 false (.t 9), none, 0, 0⟩,
          ⟨(some 34), .un .not (.t 33), none, 0, 0⟩,
          ⟨(some 35), .mov (.t 34), none, 0, 0⟩,
          ⟨(some 36), .load 1 false (.t 7), (some (35, false)), 0, 0⟩,
          ⟨(some 37), .load 1 false (.t 7), (some (35, false)), 0, 0⟩,
          ⟨(some 38), .len (.t 37), (some (35, false)), 0, 0⟩,
          ⟨(some 39), .bin .sub (.t 38) (.c (.d (.sc (.int .i64 1)))), (some (35, false)), 0, 0⟩,
          ⟨(some 40), .indexAddr 1 (.t 36) (.t 39), (some (35, false)), 0, 0⟩,
          ⟨(some 41), .load 1 false (.t 40), (some (35, false)), 0, 0⟩,
          ⟨(some 42), .bin .neq (.t 41) (.c (.d (.sc (.int .i64 0)))), (some (35, false)), 0, 0⟩,
          ⟨(some 43), .pick (.t 35) (.c (.d (.sc (.bool true)))) (.t 42), none, 0, 0⟩] false)
        (.cond (.t 43)
         (.seq
          (.region [⟨(some 4), .mov (.c (.own [] .full)), none, 0, 0⟩,
            ⟨(some 5), .mov (.c (.d (.sc (.int .i64 36)))), none, 0, 0⟩] false)
          .ret)
         .skip))
       (.seq
        (.region [⟨(some 44), .load 1 false (.t 7), none, 0, 0⟩,
          ⟨(some 4), .mov (.t 44), none, 0, 0⟩,
          ⟨(some 5), .mov (.c (.d (.sc (.int .i64 0)))), none, 0, 0⟩] false)
        .ret))))))), false⟩
/-- wreckage/flow.Next -/
def t11 : AFn := ⟨2, 23, [.t 4, .t 5],
 (.seq
  (.region [⟨(some 4), .mov (.c (.own [] .full)), none, 0, 0⟩,
    ⟨(some 5), .mov (.c (.d (.sc (.int .i64 0)))), none, 0, 0⟩] false)
  (.seq
   (.seq
    (.region [⟨(some 7), .mov (.t 0), none, 0, 0⟩,
      ⟨(some 8), .callF 15 [(.t 7)], none, 0, 0⟩,
      ⟨(some 6), .mov (.t 8), none, 0, 0⟩] false)
    (.seq
     (.region [⟨(some 9), .mov (.t 6), none, 0, 0⟩,
       ⟨(some 10), .bin .neq (.t 9) (.c (.d (.sc (.int .i64 0)))), none, 0, 0⟩] false)
     (.cond (.t 10)
      (.seq
       (.region [⟨(some 11), .mov (.t 6), none, 0, 0⟩,
         ⟨(some 4), .mov (.c (.own [] .full)), none, 0, 0⟩,
         ⟨(some 5), .mov (.t 11), none, 0, 0⟩] false)
       .ret)
      .skip)))
   (.seq
    (.seq
     (.region [⟨(some 12), .mov (.t 1), none, 0, 0⟩,
       ⟨(some 13), .bin .lss (.t 12) (.c (.d (.sc (.int .i64 0)))), none, 0, 0⟩,
       ⟨(some 14), .mov (.t 13), none, 0, 0⟩,
       ⟨(some 15), .mov (.t 1), (some (14, false)), 0, 0⟩,
       ⟨(some 16), .mov (.t 0), (some (14, false)), 0, 0⟩,
       ⟨(some 17), .len (.t 16), (some (14, false)), 0, 0⟩,
       ⟨(some 18), .bin .geq (.t 15) (.t 17), (some (14, false)), 0, 0⟩,
       ⟨(some 19), .pick (.t 14) (.c (.d (.sc (.bool true)))) (.t 18), none, 0, 0⟩] false)
     (.cond (.t 19)
      (.seq
       (.region [⟨(some 4), .mov (.c (.own [] .full)), none, 0, 0⟩,
         ⟨(some 5), .mov (.c (.d (.sc (.int .i64 2)))), none, 0, 0⟩] false)
       .ret)
      .skip))
    (.seq
     (.region [⟨(some 20), .mov (.t 0), none, 0, 0⟩,
       ⟨(some 21), .mov (.t 1), none, 0, 0⟩,
       ⟨(some 22), .call 36 [(.t 20), (.t 21)], none, 0, 0⟩,
       ⟨(some 4), .mov (.t 22), none, 0, 0⟩,
       ⟨(some 5), .mov (.c (.d (.sc (.int .i64 0)))), none, 0, 0⟩] false)
     .ret)))), false⟩
/-- wreckage/wreckageref07.Written -/
def t35 : AFn := ⟨1, 26, [.t 2],
 (.seq
  (.region [⟨(some 1), .box (.t 0), none, 0, 0⟩,
    ⟨(some 2), .mov (.c (.d (.sc (.int .u64 0)))), none, 0, 0⟩] false)
  (.seq
   (.region [⟨(some 8), .load 4 true (.t 1), none, 0, 0⟩,
     ⟨(some 9), .call 52 [(.t 8)], none, 0, 0⟩,
     ⟨(some 7), .mov (.t 9), none, 0, 0⟩,
     ⟨(some 10), .extract (.t 7) 0, none, 0, 0⟩,
     ⟨(some 11), .extract (.t 7) 1, none, 0, 0⟩,
     ⟨(some 3), .mov (.t 10), none, 0, 0⟩,
     ⟨(some 4), .mov (.t 11), none, 0, 0⟩] false)
   (.seq
    (.region [⟨(some 5), .mov (.c (.d (.sc (.int .u64 0)))), none, 0, 0⟩] false)
    (.seq
     (.seq
      (.region [⟨(some 6), .mov (.c (.d (.sc (.int .i64 0)))), none, 0, 0⟩] false)
      (.block 0
       (.loop
        (.seq
         (.seq
          (.region [⟨(some 12), .mov (.t 6), none, 0, 0⟩,
            ⟨(some 13), .mov (.t 4), none, 0, 0⟩,
            ⟨(some 14), .len (.t 13), none, 0, 0⟩,
            ⟨(some 15), .bin .lss (.t 12) (.t 14), none, 0, 0⟩] false)
          (.cond (.t 15)
           .skip
           (.exit 0)))
         (.seq
          (.block 1
           (.region [⟨(some 18), .mov (.t 5), none, 0, 0⟩,
             ⟨(some 19), .mov (.t 4), none, 0, 0⟩,
             ⟨(some 20), .mov (.t 6), none, 0, 0⟩,
             ⟨(some 21), .indexAddr 1 (.t 19) (.t 20), none, 0, 0⟩,
             ⟨(some 22), .load 1 false (.t 21), none, 0, 0⟩,
             ⟨(some 23), .bin .shl (.c (.d (.sc (.int .u64 1)))) (.t 22), none, 0, 0⟩,
             ⟨(some 24), .bin .or (.t 18) (.t 23), none, 0, 0⟩,
             ⟨(some 5), .mov (.t 24), none, 0, 0⟩] false))
          (.region [⟨(some 16), .mov (.t 6), none, 0, 0⟩,
            ⟨(some 17), .bin .add (.t 16) (.c (.d (.sc (.int .i64 1)))), none, 0, 0⟩,
            ⟨(some 6), .mov (.t 17), none, 0, 0⟩] false))))))
     (.seq
      (.region [⟨(some 25), .mov (.t 5), none, 0, 0⟩,
        ⟨(some 2), .mov (.t 25), none, 0, 0⟩] false)
      .ret))))), false⟩
/-- wreckage/wreckagelaw07.FlowWalk -/
def t9 : AFn := ⟨5, 192, [.t 10],
 (.seq
  (.region [⟨(some 10), .mov (.c (.d (.sc (.bool false)))), none, 0, 0⟩] false)
  (.seq
   (.seq
    (.region [⟨(some 23), .mov (.t 0), none, 0, 0⟩,
      ⟨(some 24), .callF 20 [(.t 23)], none, 0, 0⟩,
      ⟨(some 25), .un .not (.t 24), none, 0, 0⟩,
      ⟨(some 26), .mov (.t 25), none, 0, 0⟩,
      ⟨(some 27), .mov (.t 0), (some (26, false)), 0, 0⟩,
      ⟨(some 28), .mov (.t 1), (some (26, false)), 0, 0⟩,
      ⟨(some 29), .mov (.t 2), (some (26, false)), 0, 0⟩,
      ⟨(some 30), .callF 21 [(.t 27), (.t 28), (.t 29)], (some (26, false)), 0, 0⟩,
      ⟨(some 31), .bin .neq (.t 30) (.c (.d (.sc (.int .i64 0)))), (some (26, false)), 0, 0⟩,
      ⟨(some 32), .pick (.t 26) (.c (.d (.sc (.bool true)))) (.t 31), none, 0, 0⟩,
      ⟨(some 33), .mov (.t 32), none, 0, 0⟩,
      ⟨(some 34), .mov (.t 0), (some (33, false)), 0, 0⟩,
      ⟨(some 35), .mov (.t 3), (some (33, false)), 0, 0⟩,
      ⟨(some 36), .callF 32 [(.t 34), (.t 35)], (some (33, false)), 0, 0⟩,
      ⟨(some 37), .un .not (.t 36), (some (33, false)), 0, 0⟩,
      ⟨(some 38), .pick (.t 33) (.c (.d (.sc (.bool true)))) (.t 37), none, 0, 0⟩,
      ⟨(some 39), .mov (.t 38), none, 0, 0⟩,
      ⟨(some 40), .mov (.t 4), (some (39, false)), 0, 0⟩,
      ⟨(some 41), .len (.t 40), (some (39, false)), 0, 0⟩,
      ⟨(some 42), .bin .gtr (.t 41) (.c (.d (.sc (.int .i64 200)))), (some (39, false)), 0, 0⟩,
      ⟨(some 43), .pick (.t 39) (.c (.d (.sc (.bool true)))) (.t 42), none, 0, 0⟩] false)
    (.cond (.t 43)
     (.seq
      (.region [⟨(some 44), .callF 22 [], none, 0, 0⟩,
        ⟨(some 10), .mov (.t 44), none, 0, 0⟩] false)
      .ret)
     .skip))
   (.seq
    (.region [⟨(some 46), .mov (.t 0), none, 0, 0⟩,
      ⟨(some 47), .mov (.t 1), none, 0, 0⟩,
      ⟨(some 48), .mov (.t 2), none, 0, 0⟩,
      ⟨(some 49), .call 23 [(.t 46), (.t 47), (.t 48)], none, 0, 0⟩,
      ⟨(some 45), .mov (.t 49), none, 0, 0⟩,
      ⟨(some 50), .extract (.t 45) 0, none, 0, 0⟩,
      ⟨(some 51), .extract (.t 45) 1, none, 0, 0⟩,
      ⟨(some 11), .mov (.t 50), none, 0, 0⟩,
      ⟨(some 12), .mov (.t 51), none, 0, 0⟩] false)
    (.seq
     (.region [⟨(some 53), .mov (.t 0), none, 0, 0⟩,
       ⟨(some 54), .call 13 [(.t 53)], none, 0, 0⟩,
       ⟨(some 52), .mov (.t 54), none, 0, 0⟩,
       ⟨(some 55), .extract (.t 52) 0, none, 0, 0⟩,
       ⟨(some 56), .extract (.t 52) 1, none, 0, 0⟩,
       ⟨(some 13), .mov (.t 55), none, 0, 0⟩,
       ⟨(some 14), .mov (.t 56), none, 0, 0⟩] false)
     (.seq
      (.region [⟨(some 58), .mov (.t 0), none, 0, 0⟩,
        ⟨(some 59), .mov (.t 3), none, 0, 0⟩,
        ⟨(some 60), .call 29 [(.t 58), (.t 59)], none, 0, 0⟩,
        ⟨(some 57), .mov (.t 60), none, 0, 0⟩,
        ⟨(some 61), .extract (.t 57) 0, none, 0, 0⟩,
        ⟨(some 62), .extract (.t 57) 1, none, 0, 0⟩,
        ⟨(some 15), .mov (.t 61), none, 0, 0⟩,
        ⟨(some 16), .mov (.t 62), none, 0, 0⟩] false)
      (.seq
       (.seq
        (.region [⟨(some 63), .mov (.t 12), none, 0, 0⟩,
          ⟨(some 64), .bin .neq (.t 63) (.c (.d (.sc (.int .i64 0)))), none, 0, 0⟩,
          ⟨(some 65), .mov (.t 64), none, 0, 0⟩,
          ⟨(some 66), .mov (.t 14), (some (65, false)), 0, 0⟩,
          ⟨(some 67), .bin .neq (.t 66) (.c (.d (.sc (.int .i64 0)))), (some (65, false)), 0, 0⟩,
          ⟨(some 68), .pick (.t 65) (.c (.d (.sc (.bool true)))) (.t 67), none, 0, 0⟩,
          ⟨(some 69), .mov (.t 68), none, 0, 0⟩,
          ⟨(some 70), .mov (.t 16), (some (69, false)), 0, 0⟩,
          ⟨(some 71), .bin .neq (.t 70) (.c (.d (.sc (.int .i64 0)))), (some (69, false)), 0, 0⟩,
          ⟨(some 72), .mov (.t 71), (some (69, false)), 0, 0⟩,
          ⟨(some 73), .mov (.t 16), (some (72, true)), 0, 0⟩,
          ⟨(some 74), .bin .neq (.t 73) (.c (.d (.sc (.int .i64 36)))), (some (72, true)), 0, 0⟩,
          ⟨(some 75), .pick (.t 72) (.t 74) (.c (.d (.sc (.bool false)))), (some (69, false)), 0, 0⟩,
          ⟨(some 76), .pick (.t 69) (.c (.d (.sc (.bool true)))) (.t 75), none, 0, 0⟩,
          ⟨(some 77), .mov (.t 76), none, 0, 0⟩,
          ⟨(some 78), .mov (.t 11), (some (77, false)), 0, 0⟩,
          ⟨(some 79), .len (.t 78), (some (77, false)), 0, 0⟩,
          ⟨(some 80), .mov (.t 0), (some (77, false)), 0, 0⟩,
          ⟨(some 81), .len (.t 80), (some (77, false)), 0, 0⟩,
          ⟨(some 82), .bin .neq (.t 79) (.t 81), (some (77, false)), 0, 0⟩,
          ⟨(some 83), .pick (.t 77) (.c (.d (.sc (.bool true)))) (.t 82), none, 0, 0⟩,
          ⟨(some 84), .mov (.t 83), none, 0, 0⟩,
          ⟨(some 85), .mov (.t 13), (some (84, false)), 0, 0⟩,
          ⟨(some 86), .len (.t 85), (some (84, false)), 0, 0⟩,
          ⟨(some 87), .mov (.t 0), (some (84, false)), 0, 0⟩,
          ⟨(some 88), .len (.t 87), (some (84, false)), 0, 0⟩,
          ⟨(some 89), .bin .neq (.t 86) (.t 88), (some (84, false)), 0, 0⟩,
          ⟨(some 90), .pick (.t 84) (.c (.d (.sc (.bool true)))) (.t 89), none, 0, 0⟩,
          ⟨(some 91), .mov (.t 90), none, 0, 0⟩,
          ⟨(some 92), .mov (.t 16), (some (91, false)), 0, 0⟩,
          ⟨(some 93), .bin .eql (.t 92) (.c (.d (.sc (.int .i64 0)))), (some (91, false)), 0, 0⟩,
          ⟨(some 94), .mov (.t 93), (some (91, false)), 0, 0⟩,
          ⟨(some 95), .mov (.t 15), (some (94, true)), 0, 0⟩,
          ⟨(some 96), .len (.t 95), (some (94, true)), 0, 0⟩,
          ⟨(some 97), .mov (.t 0), (some (94, true)), 0, 0⟩,
          ⟨(some 98), .len (.t 97), (some (94, true)), 0, 0⟩,
          ⟨(some 99), .bin .neq (.t 96) (.t 98), (some (94, true)), 0, 0⟩,
          ⟨(some 100), .pick (.t 94) (.t 99) (.c (.d (.sc (.bool false)))), (some (91, false)), 0, 0⟩,
          ⟨(some 101), .pick (.t 91) (.c (.d (.sc (.bool true)))) (.t 100), none, 0, 0⟩] false)
        (.cond (.t 101)
         (.seq
          (.region [⟨(some 10), .mov (.c (.d (.sc (.bool false)))), none, 0, 0⟩] false)
          .ret)
         .skip))
       (.seq
        (.region [⟨(some 102), .mov (.t 1), none, 0, 0⟩,
          ⟨(some 103), .callF 25 [(.t 102)], none, 0, 0⟩,
          ⟨(some 17), .mov (.c (.d (.sc (.int .i64 0)))), none, 0, 0⟩,
          ⟨(some 18), .mov (.t 103), none, 0, 0⟩,
          ⟨(some 19), .mov (.c (.d (.sc (.int .i64 0)))), none, 0, 0⟩] false)
        (.seq
         (.seq
          (.region [⟨(some 20), .mov (.c (.d (.sc (.int .i64 0)))), none, 0, 0⟩] false)
          (.block 0
           (.loop
            (.seq
             (.seq
              (.region [⟨(some 104), .mov (.t 20), none, 0, 0⟩,
                ⟨(some 105), .mov (.t 4), none, 0, 0⟩,
                ⟨(some 106), .len (.t 105), none, 0, 0⟩,
                ⟨(some 107), .bin .leq (.t 104) (.t 106), none, 0, 0⟩] false)
              (.cond (.t 107)
               .skip
               (.exit 0)))
             (.seq
              (.block 1
               (.seq
                (.seq
                 (.region [⟨(some 110), .mov (.t 11), none, 0, 0⟩,
                   ⟨(some 111), .mov (.t 17), none, 0, 0⟩,
                   ⟨(some 112), .indexAddr 1 (.t 110) (.t 111), none, 0, 0⟩,
                   ⟨(some 113), .load 1 false (.t 112), none, 0, 0⟩,
                   ⟨(some 114), .mov (.t 18), none, 0, 0⟩,
                   ⟨(some 115), .bin .andNot (.t 113) (.t 114), none, 0, 0⟩,
                   ⟨(some 116), .bin .neq (.t 115) (.c (.d (.sc (.int .u64 0)))), none, 0, 0⟩,
                   ⟨(some 117), .mov (.t 116), none, 0, 0⟩,
                   ⟨(some 118), .mov (.t 13), (some (117, false)), 0, 0⟩,
                   ⟨(some 119), .mov (.t 17), (some (117, false)), 0, 0⟩,
                   ⟨(some 120), .indexAddr 1 (.t 118) (.t 119), (some (117, false)), 0, 0⟩,
                   ⟨(some 121), .load 1 false (.t 120), (some (117, false)), 0, 0⟩,
                   ⟨(some 122), .un .not (.t 121), (some (117, false)), 0, 0⟩,
                   ⟨(some 123), .pick (.t 117) (.c (.d (.sc (.bool true)))) (.t 122), none, 0, 0⟩,
                   ⟨(some 124), .mov (.t 123), none, 0, 0⟩,
                   ⟨(some 125), .mov (.t 16), (some (124, false)), 0, 0⟩,
                   ⟨(some 126), .bin .eql (.t 125) (.c (.d (.sc (.int .i64 0)))), (some (124, false)), 0, 0⟩,
                   ⟨(some 127), .mov (.t 126), (some (124, false)), 0, 0⟩,
                   ⟨(some 128), .mov (.t 15), (some (127, true)), 0, 0⟩,
                   ⟨(some 129), .mov (.t 17), (some (127, true)), 0, 0⟩,
                   ⟨(some 130), .indexAddr 1 (.t 128) (.t 129), (some (127, true)), 0, 0⟩,
                   ⟨(some 131), .load 1 false (.t 130), (some (127, true)), 0, 0⟩,
                   ⟨(some 132), .mov (.t 19), (some (127, true)), 0, 0⟩,
                   ⟨(some 133), .bin .neq (.t 131) (.t 132), (some (127, true)), 0, 0⟩,
                   ⟨(some 134), .pick (.t 127) (.t 133) (.c (.d (.sc (.bool false)))), (some (124, false)), 0, 0⟩,
                   ⟨(some 135), .pick (.t 124) (.c (.d (.sc (.bool true)))) (.t 134), none, 0, 0⟩] false)
                 (.cond (.t 135)
                  (.seq
                   (.region [⟨(some 10), .mov (.c (.d (.sc (.bool false)))), none, 0, 0⟩] false)
                   .ret)
                  .skip))
                (.seq
                 (.region [⟨(some 137), .mov (.t 0), none, 0, 0⟩,
                   ⟨(some 138), .mov (.t 17), none, 0, 0⟩,
                   ⟨(some 139), .call 11 [(.t 137), (.t 138)], none, 0, 0⟩,
                   ⟨(some 136), .mov (.t 139), none, 0, 0⟩,
                   ⟨(some 140), .extract (.t 136) 0, none, 0, 0⟩,
                   ⟨(some 141), .extract (.t 136) 1, none, 0, 0⟩,
                   ⟨(some 21), .mov (.t 140), none, 0, 0⟩,
                   ⟨(some 22), .mov (.t 141), none, 0, 0⟩] false)
                 (.seq
                  (.seq
                   (.region [⟨(some 142), .mov (.t 22), none, 0, 0⟩,
                     ⟨(some 143), .bin .neq (.t 142) (.c (.d (.sc (.int .i64 0)))), none, 0, 0⟩] false)
                   (.cond (.t 143)
                    (.seq
                     (.region [⟨(some 10), .mov (.c (.d (.sc (.bool false)))), none, 0, 0⟩] false)
                     .ret)
                    .skip))
                  (.seq
                   (.seq
                    (.region [⟨(some 144), .mov (.t 21), none, 0, 0⟩,
                      ⟨(some 145), .len (.t 144), none, 0, 0⟩,
                      ⟨(some 146), .bin .eql (.t 145) (.c (.d (.sc (.int .i64 0)))), none, 0, 0⟩,
                      ⟨(some 147), .mov (.t 146), none, 0, 0⟩,
                      ⟨(some 148), .mov (.t 20), (some (147, false)), 0, 0⟩,
                      ⟨(some 149), .mov (.t 4), (some (147, false)), 0, 0⟩,
                      ⟨(some 150), .len (.t 149), (some (147, false)), 0, 0⟩,
                      ⟨(some 151), .bin .eql (.t 148) (.t 150), (some (147, false)), 0, 0⟩,
                      ⟨(some 152), .pick (.t 147) (.c (.d (.sc (.bool true)))) (.t 151), none, 0, 0⟩,
                      ⟨(some 153), .mov (.t 152), none, 0, 0⟩,
                      ⟨(some 154), .mov (.t 4), (some (153, false)), 0, 0⟩,
                      ⟨(some 155), .mov (.t 20), (some (153, false)), 0, 0⟩,
                      ⟨(some 156), .indexAddr 1 (.t 154) (.t 155), (some (153, false)), 0, 0⟩,
                      ⟨(some 157), .load 1 false (.t 156), (some (153, false)), 0, 0⟩,
                      ⟨(some 158), .bin .lss (.t 157) (.c (.d (.sc (.int .i64 0)))), (some (153, false)), 0, 0⟩,
                      ⟨(some 159), .pick (.t 153) (.c (.d (.sc (.bool true)))) (.t 158), none, 0, 0⟩] false)
                    (.cond (.t 159)
                     (.exit 0)
                     .skip))
                   (.seq
                    (.region [⟨(some 160), .mov (.t 18), none, 0, 0⟩,
                      ⟨(some 161), .mov (.t 0), none, 0, 0⟩,
                      ⟨(some 162), .mov (.t 17), none, 0, 0⟩,
                      ⟨(some 163), .indexAddr 4 (.t 161) (.t 162), none, 0, 0⟩,
                      ⟨(some 164), .load 4 true (.t 163), none, 0, 0⟩,
                      ⟨(some 165), .callF 35 [(.t 164)], none, 0, 0⟩,
                      ⟨(some 166), .bin .or (.t 160) (.t 165), none, 0, 0⟩,
                      ⟨(some 18), .mov (.t 166), none, 0, 0⟩] false)
                    (.seq
                     (.region [⟨(some 167), .mov (.t 19), none, 0, 0⟩,
                       ⟨(some 168), .mov (.t 3), none, 0, 0⟩,
                       ⟨(some 169), .mov (.t 17), none, 0, 0⟩,
                       ⟨(some 170), .indexAddr 1 (.t 168) (.t 169), none, 0, 0⟩,
                       ⟨(some 171), .load 1 false (.t 170), none, 0, 0⟩,
                       ⟨(some 172), .bin .add (.t 167) (.t 171), none, 0, 0⟩,
                       ⟨(some 19), .mov (.t 172), none, 0, 0⟩] false)
                     (.seq
                      (.region [⟨(some 173), .mov (.t 21), none, 0, 0⟩,
                        ⟨(some 174), .mov (.t 4), none, 0, 0⟩,
                        ⟨(some 175), .mov (.t 20), none, 0, 0⟩,
                        ⟨(some 176), .indexAddr 1 (.t 174) (.t 175), none, 0, 0⟩,
                        ⟨(some 177), .load 1 false (.t 176), none, 0, 0⟩,
                        ⟨(some 178), .mov (.t 21), none, 0, 0⟩,
                        ⟨(some 179), .len (.t 178), none, 0, 0⟩,
                        ⟨(some 180), .bin .rem (.t 177) (.t 179), none, 0, 0⟩,
                        ⟨(some 181), .indexAddr 1 (.t 173) (.t 180), none, 0, 0⟩,
                        ⟨(some 182), .load 1 false (.t 181), none, 0, 0⟩,
                        ⟨(some 17), .mov (.t 182), none, 0, 0⟩] false)
                      (.seq
                       (.region [⟨(some 183), .mov (.t 17), none, 0, 0⟩,
                         ⟨(some 184), .bin .lss (.t 183) (.c (.d (.sc (.int .i64 0)))), none, 0, 0⟩,
                         ⟨(some 185), .mov (.t 184), none, 0, 0⟩,
                         ⟨(some 186), .mov (.t 17), (some (185, false)), 0, 0⟩,
                         ⟨(some 187), .mov (.t 0), (some (185, false)), 0, 0⟩,
                         ⟨(some 188), .len (.t 187), (some (185, false)), 0, 0⟩,
                         ⟨(some 189), .bin .geq (.t 186) (.t 188), (some (185, false)), 0, 0⟩,
                         ⟨(some 190), .pick (.t 185) (.c (.d (.sc (.bool true)))) (.t 189), none, 0, 0⟩] false)
                       (.cond (.t 190)
                        (.seq
                         (.region [⟨(some 10), .mov (.c (.d (.sc (.bool false)))), none, 0, 0⟩] false)
                         .ret)
                        .skip))))))))))
              (.region [⟨(some 108), .mov (.t 20), none, 0, 0⟩,
                ⟨(some 109), .bin .add (.t 108) (.c (.d (.sc (.int .i64 1)))), none, 0, 0⟩,
                ⟨(some 20), .mov (.t 109), none, 0, 0⟩] false))))))
         (.seq
          (.region [⟨(some 191), .callF 22 [], none, 0, 0⟩,
            ⟨(some 10), .mov (.t 191), none, 0, 0⟩] false)
          .ret))))))))), false⟩
def md : Nat → Eng.Mode := fun f => match f with
  | 10 => ⟨[], false⟩
  | 57 => ⟨[], false⟩
  | 58 => ⟨[], false⟩
  | 59 => ⟨[], false⟩
  | 41 => ⟨[], false⟩
  | 16 => ⟨[], false⟩
  | 20 => ⟨[], false⟩
  | 52 => ⟨[], false⟩
  | 42 => ⟨[], false⟩
  | 25 => ⟨[], false⟩
  | 21 => ⟨[], false⟩
  | 32 => ⟨[], false⟩
  | 34 => ⟨[], false⟩
  | 43 => ⟨[], false⟩
  | 63 => ⟨[], true⟩
  | 64 => ⟨[], false⟩
  | 65 => ⟨[], false⟩
  | 66 => ⟨[], false⟩
  | 67 => ⟨[], false⟩
  | 55 => ⟨[], false⟩
  | 56 => ⟨[], false⟩
  | 40 => ⟨[], false⟩
  | 15 => ⟨[], false⟩
  | 44 => ⟨[], false⟩
  | 45 => ⟨[], false⟩
  | 46 => ⟨[], true⟩
  | 36 => ⟨[(28, 1)], false⟩
  | 38 => ⟨[(24, 3), (40, 1), (10, 1)], true⟩
  | 23 => ⟨[(74, 1), (39, 1)], false⟩
  | 31 => ⟨[], false⟩
  | 22 => ⟨[(21, 2), (30, 2)], false⟩
  | 39 => ⟨[], true⟩
  | 13 => ⟨[(13, 1)], false⟩
  | 60 => ⟨[], true⟩
  | 48 => ⟨[], true⟩
  | 49 => ⟨[], false⟩
  | 50 => ⟨[], true⟩
  | 29 => ⟨[], false⟩
  | 11 => ⟨[], false⟩
  | 35 => ⟨[], false⟩
  | 9 => ⟨[], false⟩
  | _ => ⟨[], false⟩
def lib : Nat → Option TypeId := fun f => match f with
  | 53 => some 1000000
  | 54 => some 1000001
  | _ => none
def tabL : List (Nat × AFn) := [(10, t10), (57, t57), (58, t58), (59, t59), (41, t41), (16, t16), (20, t20), (52, t52), (42, t42), (25, t25), (21, t21), (32, t32), (34, t34), (43, t43), (63, t63), (64, t64), (65, t65), (66, t66), (67, t67), (55, t55), (56, t56), (40, t40), (15, t15), (44, t44), (45, t45), (46, t46), (36, t36), (38, t38), (23, t23), (31, t31), (22, t22), (39, t39), (13, t13), (60, t60), (48, t48), (49, t49), (50, t50), (29, t29), (11, t11), (35, t35), (9, t9)]
def tab : Nat → Option AFn := Go.Sym.tabAt tabL
theorem tab10 : fnP Try.prog lib md 10 = some t10 := by kernel_rfl
theorem tab57 : fnP Try.prog lib md 57 = some t57 := by kernel_rfl
theorem tab58 : fnP Try.prog lib md 58 = some t58 := by kernel_rfl
theorem tab59 : fnP Try.prog lib md 59 = some t59 := by kernel_rfl
theorem tab41 : fnP Try.prog lib md 41 = some t41 := by kernel_rfl
theorem tab16 : fnP Try.prog lib md 16 = some t16 := by kernel_rfl
theorem tab20 : fnP Try.prog lib md 20 = some t20 := by kernel_rfl
theorem tab52 : fnP Try.prog lib md 52 = some t52 := by kernel_rfl
theorem tab42 : fnP Try.prog lib md 42 = some t42 := by kernel_rfl
theorem tab25 : fnP Try.prog lib md 25 = some t25 := by kernel_rfl
theorem tab21 : fnP Try.prog lib md 21 = some t21 := by kernel_rfl
theorem tab32 : fnP Try.prog lib md 32 = some t32 := by kernel_rfl
theorem tab34 : fnP Try.prog lib md 34 = some t34 := by kernel_rfl
theorem tab43 : fnP Try.prog lib md 43 = some t43 := by kernel_rfl
theorem tab63 : fnP Try.prog lib md 63 = some t63 := by kernel_rfl
theorem tab64 : fnP Try.prog lib md 64 = some t64 := by kernel_rfl
theorem tab65 : fnP Try.prog lib md 65 = some t65 := by kernel_rfl
theorem tab66 : fnP Try.prog lib md 66 = some t66 := by kernel_rfl
theorem tab67 : fnP Try.prog lib md 67 = some t67 := by kernel_rfl
theorem tab55 : fnP Try.prog lib md 55 = some t55 := by kernel_rfl
theorem tab56 : fnP Try.prog lib md 56 = some t56 := by kernel_rfl
theorem tab40 : fnP Try.prog lib md 40 = some t40 := by kernel_rfl
theorem tab15 : fnP Try.prog lib md 15 = some t15 := by kernel_rfl
theorem tab44 : fnP Try.prog lib md 44 = some t44 := by kernel_rfl
theorem tab45 : fnP Try.prog lib md 45 = some t45 := by kernel_rfl
theorem tab46 : fnP Try.prog lib md 46 = some t46 := by kernel_rfl
theorem tab36 : fnP Try.prog lib md 36 = some t36 := by kernel_rfl
theorem tab38 : fnP Try.prog lib md 38 = some t38 := by kernel_rfl
theorem tab23 : fnP Try.prog lib md 23 = some t23 := by kernel_rfl
theorem tab31 : fnP Try.prog lib md 31 = some t31 := by kernel_rfl
theorem tab22 : fnP Try.prog lib md 22 = some t22 := by kernel_rfl
theorem tab39 : fnP Try.prog lib md 39 = some t39 := by kernel_rfl
theorem tab13 : fnP Try.prog lib md 13 = some t13 := by kernel_rfl
theorem tab60 : fnP Try.prog lib md 60 = some t60 := by kernel_rfl
theorem tab48 : fnP Try.prog lib md 48 = some t48 := by kernel_rfl
theorem tab49 : fnP Try.prog lib md 49 = some t49 := by kernel_rfl
theorem tab50 : fnP Try.prog lib md 50 = some t50 := by kernel_rfl
theorem tab29 : fnP Try.prog lib md 29 = some t29 := by kernel_rfl
theorem tab11 : fnP Try.prog lib md 11 = some t11 := by kernel_rfl
theorem tab35 : fnP Try.prog lib md 35 = some t35 := by kernel_rfl
theorem tab9 : fnP Try.prog lib md 9 = some t9 := by kernel_rfl
theorem tabOK : ∀ f fn, tab f = some fn → fnP Try.prog lib md f = some fn := Go.Sym.tabAt_ok <| .cons tab10 <| .cons tab57 <| .cons tab58 <| .cons tab59 <| .cons tab41 <| .cons tab16 <| .cons tab20 <| .cons tab52 <| .cons tab42 <| .cons tab25 <| .cons tab21 <| .cons tab32 <| .cons tab34 <| .cons tab43 <| .cons tab63 <| .cons tab64 <| .cons tab65 <| .cons tab66 <| .cons tab67 <| .cons tab55 <| .cons tab56 <| .cons tab40 <| .cons tab15 <| .cons tab44 <| .cons tab45 <| .cons tab46 <| .cons tab36 <| .cons tab38 <| .cons tab23 <| .cons tab31 <| .cons tab22 <| .cons tab39 <| .cons tab13 <| .cons tab60 <| .cons tab48 <| .cons tab49 <| .cons tab50 <| .cons tab29 <| .cons tab11 <| .cons tab35 <| .cons tab9 <| .nil
theorem clone53 : IsLib Try.prog 53 1000000 := ⟨fun h => absurd rfl h, fun _ => isSort_of Try.lays189 ⟨_, Try.func53, by kernel_rfl, by kernel_rfl⟩, fun h => absurd h (by decide)⟩
theorem clone54 : IsLib Try.prog 54 1000001 := ⟨fun _ h => absurd rfl h, fun h => absurd h (by decide), fun _ => isCompact_of Try.lays20 ⟨_, Try.func54, by kernel_rfl, by kernel_rfl⟩⟩
theorem libOK : ∀ f T, lib f = some T → IsLib Try.prog f T := by
  intro f T h
  unfold lib at h
  split at h
  · injection h with h; subst h; exact clone53
  · injection h with h; subst h; exact clone54
  · cases h
end Go.Proofs.Ytedmahccogjemaa
