/- A part of the proof: Tab07. -/
import Derived.Test.YtedmahccogjemaaEngZA
import Derived.Test.YtedmahccogjemaaRows
import Derived.ProofKit
namespace Go.Proofs.Ytedmahccogjemaa
open Go Go.Eng
/-- wreckage/wreckagelaw07.FlowNames -/
def t8 : AFn := ⟨0, 358, [.t 0],
 (.seq
  (.region [⟨(some 0), .mov (.c (.d (.sc (.bool false)))), none, 0, 0⟩] false)
  (.seq
   (.region [⟨(some 51), .build [(.d (.sc (.int .u8 0))), (.d (.sc (.int .i64 0))), (.d (.sc (.int .i64 0))), (.d (.sc (.int .i64 0)))] [(0, 1, (.c (.d (.sc (.int .u8 31)))))], none, 0, 0⟩,
     ⟨(some 52), .build [(.d (.sc (.int .u8 0))), (.d (.sc (.int .i64 0))), (.d (.sc (.int .i64 0))), (.d (.sc (.int .i64 0)))] [(0, 1, (.c (.d (.sc (.int .u8 24)))))], none, 0, 0⟩,
     ⟨(some 1), .alloc [(.d (.sc (.int .u8 0))), (.d (.sc (.int .i64 0))), (.d (.sc (.int .i64 0))), (.d (.sc (.int .i64 0)))], none, 0, 0⟩,
     ⟨(some 2), .alloc [(.d (.sc (.int .u8 0))), (.d (.sc (.int .i64 0))), (.d (.sc (.int .i64 0))), (.d (.sc (.int .i64 0)))], none, 0, 0⟩,
     ⟨none, .store 4 (.t 1) (.t 51), none, 0, 0⟩,
     ⟨none, .store 4 (.t 2) (.t 52), none, 0, 0⟩] false)
   (.seq
    (.region [⟨(some 53), .makeSlice 4 32 [(.sc (.int .u8 0)), (.sc (.int .i64 0)), (.sc (.int .i64 0)), (.sc (.int .i64 0))] (.c (.d (.sc (.int .i64 201)))) (.c (.d (.sc (.int .i64 201)))), none, 0, 1⟩,
      ⟨(some 3), .mov (.t 53), none, 0, 0⟩] false)
    (.seq
     (.seq
      (.region [⟨(some 4), .mov (.c (.d (.sc (.int .i64 0)))), none, 0, 0⟩] false)
      (.block 0
       (.loop
        (.seq
         (.seq
          (.region [⟨(some 54), .mov (.t 4), none, 0, 0⟩,
            ⟨(some 55), .bin .lss (.t 54) (.c (.d (.sc (.int .i64 200)))), none, 0, 0⟩] false)
          (.cond (.t 55)
           .skip
           (.exit 0)))
         (.seq
          (.block 1
           (.region [⟨(some 58), .mov (.t 3), none, 0, 0⟩,
             ⟨(some 59), .mov (.t 4), none, 0, 0⟩,
             ⟨(some 60), .load 4 true (.t 1), none, 0, 0⟩,
             ⟨(some 61), .indexAddr 4 (.t 58) (.t 59), none, 0, 0⟩,
             ⟨none, .store 4 (.t 61) (.t 60), none, 0, 0⟩] false))
          (.region [⟨(some 56), .mov (.t 4), none, 0, 0⟩,
            ⟨(some 57), .bin .add (.t 56) (.c (.d (.sc (.int .i64 1)))), none, 0, 0⟩,
            ⟨(some 4), .mov (.t 57), none, 0, 0⟩] false))))))
     (.seq
      (.region [⟨(some 62), .mov (.t 3), none, 0, 0⟩,
        ⟨(some 63), .call 34 [], none, 0, 0⟩,
        ⟨(some 64), .indexAddr 4 (.t 62) (.c (.d (.sc (.int .i64 200)))), none, 0, 0⟩,
        ⟨none, .store 4 (.t 64) (.t 63), none, 0, 0⟩] false)
      (.seq
       (.region [⟨(some 65), .load 4 true (.t 1), none, 0, 0⟩,
         ⟨(some 66), .buildSlice 4 1 [(.sc (.int .u8 0)), (.sc (.int .i64 0)), (.sc (.int .i64 0)), (.sc (.int .i64 0))] [(0, (.t 65))], none, 1, 0⟩,
         ⟨(some 67), .build [(.d (.sc (.int .u8 0))), (.d (.sc (.int .i64 0))), (.d (.sc (.int .i64 0))), (.d (.sc (.int .i64 0)))] [(0, 1, (.c (.d (.sc (.int .u8 34)))))], none, 0, 0⟩,
         ⟨(some 68), .buildSlice 4 1 [(.sc (.int .u8 0)), (.sc (.int .i64 0)), (.sc (.int .i64 0)), (.sc (.int .i64 0))] [(0, (.t 67))], none, 4, 0⟩,
         ⟨(some 69), .call 34 [], none, 0, 0⟩,
         ⟨(some 70), .build [(.d (.sc (.int .u8 0))), (.d (.sc (.int .i64 0))), (.d (.sc (.int .i64 0))), (.d (.sc (.int .i64 0)))] [], none, 0, 0⟩,
         ⟨(some 71), .buildSlice 4 2 [(.sc (.int .u8 0)), (.sc (.int .i64 0)), (.sc (.int .i64 0)), (.sc (.int .i64 0))] [(0, (.t 69)), (1, (.t 70))], none, 48, 0⟩,
         ⟨(some 72), .build [(.d (.sc (.int .u8 0))), (.d (.sc (.int .i64 0))), (.d (.sc (.int .i64 0))), (.d (.sc (.int .i64 0)))] [], none, 0, 0⟩,
         ⟨(some 73), .call 34 [], none, 16, 0⟩,
         ⟨(some 74), .buildSlice 4 2 [(.sc (.int .u8 0)), (.sc (.int .i64 0)), (.sc (.int .i64 0)), (.sc (.int .i64 0))] [(0, (.t 72)), (1, (.t 73))], none, 400, 0⟩,
         ⟨(some 75), .build [(.d (.sc (.int .u8 0))), (.d (.sc (.int .i64 0))), (.d (.sc (.int .i64 0))), (.d (.sc (.int .i64 0)))] [(0, 1, (.c (.d (.sc (.int .u8 22))))), (1, 1, (.c (.d (.sc (.int .i64 2)))))], none, 0, 0⟩,
         ⟨(some 76), .call 34 [], none, 272, 0⟩,
         ⟨(some 77), .buildSlice 4 2 [(.sc (.int .u8 0)), (.sc (.int .i64 0)), (.sc (.int .i64 0)), (.sc (.int .i64 0))] [(0, (.t 75)), (1, (.t 76))], none, 3344, 0⟩,
         ⟨(some 78), .build [(.d (.sc (.int .u8 0))), (.d (.sc (.int .i64 0))), (.d (.sc (.int .i64 0))), (.d (.sc (.int .i64 0)))] [(0, 1, (.c (.d (.sc (.int .u8 23))))), (2, 1, (.c (.d (.sc (.int .i64 2)))))], none, 0, 0⟩,
         ⟨(some 79), .call 34 [], none, 2320, 0⟩,
         ⟨(some 80), .buildSlice 4 2 [(.sc (.int .u8 0)), (.sc (.int .i64 0)), (.sc (.int .i64 0)), (.sc (.int .i64 0))] [(0, (.t 78)), (1, (.t 79))], none, 26896, 0⟩,
         ⟨(some 81), .mov (.t 3), none, 0, 0⟩,
         ⟨(some 82), .buildSlice 1 8 [(.sl [])] [(0, (.c (.own [] .full))), (1, (.t 66)), (2, (.t 68)), (3, (.t 71)), (4, (.t 74)), (5, (.t 77)), (6, (.t 80)), (7, (.t 81))], none, 131071, 0⟩,
         ⟨(some 5), .mov (.t 82), none, 262143, 0⟩] true)
       (.seq
        (.seq
         (.region [⟨(some 6), .mov (.c (.d (.sc (.int .i64 0)))), none, 0, 0⟩] false)
         (.block 2
          (.loop
           (.seq
            (.seq
             (.region [⟨(some 83), .mov (.t 6), none, 0, 0⟩,
               ⟨(some 84), .mov (.t 5), none, 0, 0⟩,
               ⟨(some 85), .len (.t 84), none, 0, 0⟩,
               ⟨(some 86), .bin .lss (.t 83) (.t 85), none, 0, 0⟩] false)
             (.cond (.t 86)
              .skip
              (.exit 2)))
            (.seq
             (.block 3
              (.seq
               (.region [⟨(some 90), .mov (.t 5), none, 0, 0⟩,
                 ⟨(some 91), .mov (.t 6), none, 0, 0⟩,
                 ⟨(some 92), .indexAddr 1 (.t 90) (.t 91), none, 0, 0⟩,
                 ⟨(some 93), .load 1 false (.t 92), none, 0, 0⟩,
                 ⟨(some 94), .call 11 [(.t 93), (.c (.d (.sc (.int .i64 (-1)))))], none, 0, 0⟩,
                 ⟨(some 89), .mov (.t 94), none, 0, 0⟩,
                 ⟨(some 95), .extract (.t 89) 0, none, 0, 0⟩,
                 ⟨(some 96), .extract (.t 89) 1, none, 0, 0⟩,
                 ⟨(some 7), .mov (.t 95), none, 0, 0⟩,
                 ⟨(some 8), .mov (.t 96), none, 0, 0⟩] false)
               (.seq
                (.region [⟨(some 98), .mov (.t 5), none, 0, 0⟩,
                  ⟨(some 99), .mov (.t 6), none, 0, 0⟩,
                  ⟨(some 100), .indexAddr 1 (.t 98) (.t 99), none, 0, 0⟩,
                  ⟨(some 101), .load 1 false (.t 100), none, 0, 0⟩,
                  ⟨(some 102), .call 13 [(.t 101)], none, 0, 0⟩,
                  ⟨(some 97), .mov (.t 102), none, 0, 0⟩,
                  ⟨(some 103), .extract (.t 97) 0, none, 0, 0⟩,
                  ⟨(some 104), .extract (.t 97) 1, none, 0, 0⟩,
                  ⟨(some 9), .mov (.t 103), none, 0, 0⟩,
                  ⟨(some 10), .mov (.t 104), none, 0, 0⟩] false)
                (.seq
                 (.region [⟨(some 106), .mov (.t 5), none, 0, 0⟩,
                   ⟨(some 107), .mov (.t 6), none, 0, 0⟩,
                   ⟨(some 108), .indexAddr 1 (.t 106) (.t 107), none, 0, 0⟩,
                   ⟨(some 109), .load 1 false (.t 108), none, 0, 0⟩,
                   ⟨(some 110), .call 23 [(.t 109), (.c (.d (.sc (.int .i64 (-1))))), (.c (.d (.sc (.int .i64 (-1)))))], none, 0, 0⟩,
                   ⟨(some 105), .mov (.t 110), none, 0, 0⟩,
                   ⟨(some 111), .extract (.t 105) 0, none, 0, 0⟩,
                   ⟨(some 112), .extract (.t 105) 1, none, 0, 0⟩,
                   ⟨(some 11), .mov (.t 111), none, 0, 0⟩,
                   ⟨(some 12), .mov (.t 112), none, 0, 0⟩] false)
                 (.seq
                  (.region [⟨(some 114), .mov (.t 5), none, 0, 0⟩,
                    ⟨(some 115), .mov (.t 6), none, 0, 0⟩,
                    ⟨(some 116), .indexAddr 1 (.t 114) (.t 115), none, 0, 0⟩,
                    ⟨(some 117), .load 1 false (.t 116), none, 0, 0⟩,
                    ⟨(some 118), .call 29 [(.t 117), (.c (.own [] .full))], none, 0, 0⟩,
                    ⟨(some 113), .mov (.t 118), none, 0, 0⟩,
                    ⟨(some 119), .extract (.t 113) 0, none, 0, 0⟩,
                    ⟨(some 120), .extract (.t 113) 1, none, 0, 0⟩,
                    ⟨(some 13), .mov (.t 119), none, 0, 0⟩,
                    ⟨(some 14), .mov (.t 120), none, 0, 0⟩] false)
                  (.seq
                   (.region [⟨(some 121), .mov (.t 5), none, 0, 0⟩,
                     ⟨(some 122), .mov (.t 6), none, 0, 0⟩,
                     ⟨(some 123), .indexAddr 1 (.t 121) (.t 122), none, 0, 0⟩,
                     ⟨(some 124), .load 1 false (.t 123), none, 0, 0⟩,
                     ⟨(some 125), .call 15 [(.t 124)], none, 0, 0⟩,
                     ⟨(some 126), .bin .neq (.t 125) (.c (.d (.sc (.int .i64 8)))), none, 0, 0⟩,
                     ⟨(some 127), .mov (.t 126), none, 0, 0⟩,
                     ⟨(some 128), .mov (.t 8), (some (127, false)), 0, 0⟩,
                     ⟨(some 129), .bin .neq (.t 128) (.c (.d (.sc (.int .i64 8)))), (some (127, false)), 0, 0⟩,
                     ⟨(some 130), .pick (.t 127) (.c (.d (.sc (.bool true)))) (.t 129), none, 0, 0⟩,
                     ⟨(some 131), .mov (.t 130), none, 0, 0⟩,
                     ⟨(some 132), .mov (.t 10), (some (131, false)), 0, 0⟩,
                     ⟨(some 133), .bin .neq (.t 132) (.c (.d (.sc (.int .i64 8)))), (some (131, false)), 0, 0⟩,
                     ⟨(some 134), .pick (.t 131) (.c (.d (.sc (.bool true)))) (.t 133), none, 0, 0⟩,
                     ⟨(some 135), .mov (.t 134), none, 0, 0⟩,
                     ⟨(some 136), .mov (.t 12), (some (135, false)), 0, 0⟩,
                     ⟨(some 137), .bin .neq (.t 136) (.c (.d (.sc (.int .i64 8)))), (some (135, false)), 0, 0⟩,
                     ⟨(some 138), .pick (.t 135) (.c (.d (.sc (.bool true)))) (.t 137), none, 0, 0⟩,
                     ⟨(some 139), .mov (.t 138), none, 0, 0⟩,
                     ⟨(some 140), .mov (.t 14), (some (139, false)), 0, 0⟩,
                     ⟨(some 141), .bin .neq (.t 140) (.c (.d (.sc (.int .i64 8)))), (some (139, false)), 0, 0⟩,
                     ⟨(some 142), .pick (.t 139) (.c (.d (.sc (.bool true)))) (.t 141), none, 0, 0⟩] false)
                   (.cond (.t 142)
                    (.seq
                     (.region [⟨(some 0), .mov (.c (.d (.sc (.bool false)))), none, 0, 0⟩] false)
                     .ret)
                    .skip)))))))
             (.region [⟨(some 87), .mov (.t 6), none, 0, 0⟩,
               ⟨(some 88), .bin .add (.t 87) (.c (.d (.sc (.int .i64 1)))), none, 0, 0⟩,
               ⟨(some 6), .mov (.t 88), none, 0, 0⟩] false))))))
        (.seq
         (.region [⟨(some 143), .build [(.d (.sc (.int .u8 0))), (.d (.sc (.int .i64 0))), (.d (.sc (.int .i64 0))), (.d (.sc (.int .i64 0)))] [(0, 1, (.c (.d (.sc (.int .u8 22)))))], none, 0, 0⟩,
           ⟨(some 144), .load 4 true (.t 1), none, 0, 0⟩,
           ⟨(some 145), .build [(.d (.sc (.int .u8 0))), (.d (.sc (.int .i64 0))), (.d (.sc (.int .i64 0))), (.d (.sc (.int .i64 0)))] [(0, 1, (.c (.d (.sc (.int .u8 1))))), (1, 1, (.c (.d (.sc (.int .i64 15)))))], none, 0, 0⟩,
           ⟨(some 146), .call 34 [], none, 0, 0⟩,
           ⟨(some 147), .buildSlice 4 4 [(.sc (.int .u8 0)), (.sc (.int .i64 0)), (.sc (.int .i64 0)), (.sc (.int .i64 0))] [(0, (.t 143)), (1, (.t 144)), (2, (.t 145)), (3, (.t 146))], none, 15, 0⟩,
           ⟨(some 15), .mov (.t 147), none, 31, 0⟩] true)
         (.seq
          (.region [⟨(some 149), .mov (.t 15), none, 0, 0⟩,
            ⟨(some 150), .call 11 [(.t 149), (.c (.d (.sc (.int .i64 4))))], none, 0, 0⟩,
            ⟨(some 148), .mov (.t 150), none, 0, 0⟩,
            ⟨(some 151), .extract (.t 148) 0, none, 0, 0⟩,
            ⟨(some 152), .extract (.t 148) 1, none, 0, 0⟩,
            ⟨(some 16), .mov (.t 151), none, 0, 0⟩,
            ⟨(some 17), .mov (.t 152), none, 0, 0⟩] false)
          (.seq
           (.region [⟨(some 154), .mov (.t 15), none, 0, 0⟩,
             ⟨(some 155), .call 11 [(.t 154), (.c (.d (.sc (.int .i64 (-1)))))], none, 0, 0⟩,
             ⟨(some 153), .mov (.t 155), none, 0, 0⟩,
             ⟨(some 156), .extract (.t 153) 0, none, 0, 0⟩,
             ⟨(some 157), .extract (.t 153) 1, none, 0, 0⟩,
             ⟨(some 18), .mov (.t 156), none, 0, 0⟩,
             ⟨(some 19), .mov (.t 157), none, 0, 0⟩] false)
           (.seq
            (.region [⟨(some 159), .mov (.t 15), none, 0, 0⟩,
              ⟨(some 160), .call 23 [(.t 159), (.c (.d (.sc (.int .i64 0)))), (.c (.d (.sc (.int .i64 17))))], none, 0, 0⟩,
              ⟨(some 158), .mov (.t 160), none, 0, 0⟩,
              ⟨(some 161), .extract (.t 158) 0, none, 0, 0⟩,
              ⟨(some 162), .extract (.t 158) 1, none, 0, 0⟩,
              ⟨(some 20), .mov (.t 161), none, 0, 0⟩,
              ⟨(some 21), .mov (.t 162), none, 0, 0⟩] false)
            (.seq
             (.region [⟨(some 164), .mov (.t 15), none, 0, 0⟩,
               ⟨(some 165), .call 23 [(.t 164), (.c (.d (.sc (.int .i64 2)))), (.c (.d (.sc (.int .i64 1))))], none, 0, 0⟩,
               ⟨(some 163), .mov (.t 165), none, 0, 0⟩,
               ⟨(some 166), .extract (.t 163) 0, none, 0, 0⟩,
               ⟨(some 167), .extract (.t 163) 1, none, 0, 0⟩,
               ⟨(some 22), .mov (.t 166), none, 0, 0⟩,
               ⟨(some 23), .mov (.t 167), none, 0, 0⟩] false)
             (.seq
              (.region [⟨(some 169), .mov (.t 15), none, 0, 0⟩,
                ⟨(some 170), .call 23 [(.t 169), (.c (.d (.sc (.int .i64 (-1))))), (.c (.d (.sc (.int .i64 16))))], none, 0, 0⟩,
                ⟨(some 168), .mov (.t 170), none, 0, 0⟩,
                ⟨(some 171), .extract (.t 168) 0, none, 0, 0⟩,
                ⟨(some 172), .extract (.t 168) 1, none, 0, 0⟩,
                ⟨(some 24), .mov (.t 171), none, 0, 0⟩,
                ⟨(some 25), .mov (.t 172), none, 0, 0⟩] false)
              (.seq
               (.region [⟨(some 174), .mov (.t 15), none, 0, 0⟩,
                 ⟨(some 175), .call 23 [(.t 174), (.c (.d (.sc (.int .i64 0)))), (.c (.d (.sc (.int .i64 15))))], none, 0, 0⟩,
                 ⟨(some 173), .mov (.t 175), none, 0, 0⟩,
                 ⟨(some 176), .extract (.t 173) 0, none, 0, 0⟩,
                 ⟨(some 177), .extract (.t 173) 1, none, 0, 0⟩,
                 ⟨(some 26), .mov (.t 176), none, 0, 0⟩,
                 ⟨(some 27), .mov (.t 177), none, 0, 0⟩] false)
               (.seq
                (.region [⟨(some 179), .mov (.t 15), none, 0, 0⟩,
                  ⟨(some 180), .makeSlice 1 8 [(.sc (.int .i64 0))] (.c (.d (.sc (.int .i64 3)))) (.c (.d (.sc (.int .i64 3)))), none, 0, 0⟩,
                  ⟨(some 181), .call 29 [(.t 179), (.t 180)], none, 0, 0⟩,
                  ⟨(some 178), .mov (.t 181), none, 0, 0⟩,
                  ⟨(some 182), .extract (.t 178) 0, none, 0, 0⟩,
                  ⟨(some 183), .extract (.t 178) 1, none, 0, 0⟩,
                  ⟨(some 28), .mov (.t 182), none, 0, 0⟩,
                  ⟨(some 29), .mov (.t 183), none, 0, 0⟩] false)
                (.seq
                 (.region [⟨(some 185), .mov (.t 15), none, 0, 0⟩,
                   ⟨(some 186), .buildSlice 1 4 [(.sc (.int .i64 0))] [(0, (.c (.d (.sc (.int .i64 0))))), (1, (.c (.d (.sc (.int .i64 0))))), (2, (.c (.d (.sc (.int .i64 0))))), (3, (.c (.d (.sc (.int .i64 4097)))))], none, 0, 0⟩,
                   ⟨(some 187), .call 29 [(.t 185), (.t 186)], none, 0, 0⟩,
                   ⟨(some 184), .mov (.t 187), none, 0, 0⟩,
                   ⟨(some 188), .extract (.t 184) 0, none, 0, 0⟩,
                   ⟨(some 189), .extract (.t 184) 1, none, 0, 0⟩,
                   ⟨(some 30), .mov (.t 188), none, 0, 0⟩,
                   ⟨(some 31), .mov (.t 189), none, 0, 0⟩] false)
                 (.seq
                  (.region [⟨(some 191), .mov (.t 15), none, 0, 0⟩,
                    ⟨(some 192), .buildSlice 1 4 [(.sc (.int .i64 0))] [(0, (.c (.d (.sc (.int .i64 8))))), (1, (.c (.d (.sc (.int .i64 0))))), (2, (.c (.d (.sc (.int .i64 0))))), (3, (.c (.d (.sc (.int .i64 0)))))], none, 0, 0⟩,
                    ⟨(some 193), .call 29 [(.t 191), (.t 192)], none, 0, 0⟩,
                    ⟨(some 190), .mov (.t 193), none, 0, 0⟩,
                    ⟨(some 194), .extract (.t 190) 0, none, 0, 0⟩,
                    ⟨(some 195), .extract (.t 190) 1, none, 0, 0⟩,
                    ⟨(some 32), .mov (.t 194), none, 0, 0⟩,
                    ⟨(some 33), .mov (.t 195), none, 0, 0⟩] false)
                  (.seq
                   (.region [⟨(some 197), .mov (.t 15), none, 0, 0⟩,
                     ⟨(some 198), .call 13 [(.t 197)], none, 0, 0⟩,
                     ⟨(some 196), .mov (.t 198), none, 0, 0⟩,
                     ⟨(some 199), .extract (.t 196) 0, none, 0, 0⟩,
                     ⟨(some 200), .extract (.t 196) 1, none, 0, 0⟩,
                     ⟨(some 34), .mov (.t 199), none, 0, 0⟩,
                     ⟨(some 35), .mov (.t 200), none, 0, 0⟩] false)
                   (.seq
                    (.region [⟨(some 202), .mov (.t 15), none, 0, 0⟩,
                      ⟨(some 203), .call 23 [(.t 202), (.c (.d (.sc (.int .i64 2)))), (.c (.d (.sc (.int .i64 16))))], none, 0, 0⟩,
                      ⟨(some 201), .mov (.t 203), none, 0, 0⟩,
                      ⟨(some 204), .extract (.t 201) 0, none, 0, 0⟩,
                      ⟨(some 205), .extract (.t 201) 1, none, 0, 0⟩,
                      ⟨(some 36), .mov (.t 204), none, 0, 0⟩,
                      ⟨(some 37), .mov (.t 205), none, 0, 0⟩] false)
                    (.seq
                     (.region [⟨(some 207), .load 4 true (.t 2), none, 0, 0⟩,
                       ⟨(some 208), .call 34 [], none, 0, 0⟩,
                       ⟨(some 209), .buildSlice 4 2 [(.sc (.int .u8 0)), (.sc (.int .i64 0)), (.sc (.int .i64 0)), (.sc (.int .i64 0))] [(0, (.t 207)), (1, (.t 208))], none, 3, 0⟩,
                       ⟨(some 210), .buildSlice 1 2 [(.sc (.int .i64 0))] [(0, (.c (.d (.sc (.int .i64 8))))), (1, (.c (.d (.sc (.int .i64 0)))))], none, 0, 0⟩,
                       ⟨(some 211), .call 29 [(.t 209), (.t 210)], none, 15, 0⟩,
                       ⟨(some 206), .mov (.t 211), none, 31, 0⟩,
                       ⟨(some 212), .extract (.t 206) 0, none, 63, 0⟩,
                       ⟨(some 213), .extract (.t 206) 1, none, 63, 0⟩,
                       ⟨(some 38), .mov (.t 212), none, 127, 0⟩,
                       ⟨(some 39), .mov (.t 213), none, 511, 0⟩] true)
                     (.seq
                      (.region [⟨(some 215), .load 4 true (.t 2), none, 0, 0⟩,
                        ⟨(some 216), .call 34 [], none, 0, 0⟩,
                        ⟨(some 217), .buildSlice 4 2 [(.sc (.int .u8 0)), (.sc (.int .i64 0)), (.sc (.int .i64 0)), (.sc (.int .i64 0))] [(0, (.t 215)), (1, (.t 216))], none, 3, 0⟩,
                        ⟨(some 218), .buildSlice 1 2 [(.sc (.int .i64 0))] [(0, (.c (.d (.sc (.int .i64 (-8)))))), (1, (.c (.d (.sc (.int .i64 0)))))], none, 0, 0⟩,
                        ⟨(some 219), .call 29 [(.t 217), (.t 218)], none, 15, 0⟩,
                        ⟨(some 214), .mov (.t 219), none, 31, 0⟩,
                        ⟨(some 220), .extract (.t 214) 0, none, 63, 0⟩,
                        ⟨(some 221), .extract (.t 214) 1, none, 63, 0⟩,
                        ⟨(some 40), .mov (.t 220), none, 127, 0⟩,
                        ⟨(some 41), .mov (.t 221), none, 511, 0⟩] true)
                      (.seq
                       (.region [⟨(some 223), .load 4 true (.t 2), none, 0, 0⟩,
                         ⟨(some 224), .load 4 true (.t 2), none, 0, 0⟩,
                         ⟨(some 225), .build [(.d (.sc (.int .u8 0))), (.d (.sc (.int .i64 0))), (.d (.sc (.int .i64 0))), (.d (.sc (.int .i64 0)))] [(0, 1, (.c (.d (.sc (.int .u8 30)))))], none, 0, 0⟩,
                         ⟨(some 226), .call 34 [], none, 0, 0⟩,
                         ⟨(some 227), .buildSlice 4 4 [(.sc (.int .u8 0)), (.sc (.int .i64 0)), (.sc (.int .i64 0)), (.sc (.int .i64 0))] [(0, (.t 223)), (1, (.t 224)), (2, (.t 225)), (3, (.t 226))], none, 15, 0⟩,
                         ⟨(some 228), .buildSlice 1 4 [(.sc (.int .i64 0))] [(0, (.c (.d (.sc (.int .i64 4096))))), (1, (.c (.d (.sc (.int .i64 1))))), (2, (.c (.d (.sc (.int .i64 0))))), (3, (.c (.d (.sc (.int .i64 0)))))], none, 0, 0⟩,
                         ⟨(some 229), .call 29 [(.t 227), (.t 228)], none, 63, 0⟩,
                         ⟨(some 222), .mov (.t 229), none, 127, 0⟩,
                         ⟨(some 230), .extract (.t 222) 0, none, 255, 0⟩,
                         ⟨(some 231), .extract (.t 222) 1, none, 255, 0⟩,
                         ⟨(some 42), .mov (.t 230), none, 511, 0⟩,
                         ⟨(some 43), .mov (.t 231), none, 2047, 0⟩] true)
                       (.seq
                        (.region [⟨(some 233), .load 4 true (.t 2), none, 0, 0⟩,
                          ⟨(some 234), .load 4 true (.t 2), none, 0, 0⟩,
                          ⟨(some 235), .build [(.d (.sc (.int .u8 0))), (.d (.sc (.int .i64 0))), (.d (.sc (.int .i64 0))), (.d (.sc (.int .i64 0)))] [(0, 1, (.c (.d (.sc (.int .u8 30)))))], none, 0, 0⟩,
                          ⟨(some 236), .call 34 [], none, 0, 0⟩,
                          ⟨(some 237), .buildSlice 4 4 [(.sc (.int .u8 0)), (.sc (.int .i64 0)), (.sc (.int .i64 0)), (.sc (.int .i64 0))] [(0, (.t 233)), (1, (.t 234)), (2, (.t 235)), (3, (.t 236))], none, 15, 0⟩,
                          ⟨(some 238), .buildSlice 1 4 [(.sc (.int .i64 0))] [(0, (.c (.d (.sc (.int .i64 4096))))), (1, (.c (.d (.sc (.int .i64 0))))), (2, (.c (.d (.sc (.int .i64 0))))), (3, (.c (.d (.sc (.int .i64 0)))))], none, 0, 0⟩,
                          ⟨(some 239), .call 29 [(.t 237), (.t 238)], none, 63, 0⟩,
                          ⟨(some 232), .mov (.t 239), none, 127, 0⟩,
                          ⟨(some 240), .extract (.t 232) 0, none, 255, 0⟩,
                          ⟨(some 241), .extract (.t 232) 1, none, 255, 0⟩,
                          ⟨(some 44), .mov (.t 240), none, 511, 0⟩,
                          ⟨(some 45), .mov (.t 241), none, 2047, 0⟩] true)
                        (.seq
                         (.region [⟨(some 243), .call 34 [], none, 0, 0⟩,
                           ⟨(some 244), .buildSlice 4 1 [(.sc (.int .u8 0)), (.sc (.int .i64 0)), (.sc (.int .i64 0)), (.sc (.int .i64 0))] [(0, (.t 243))], none, 0, 0⟩,
                           ⟨(some 245), .call 23 [(.t 244), (.c (.d (.sc (.int .i64 16)))), (.c (.d (.sc (.int .i64 16))))], none, 0, 0⟩,
                           ⟨(some 242), .mov (.t 245), none, 0, 0⟩,
                           ⟨(some 246), .extract (.t 242) 0, none, 0, 0⟩,
                           ⟨(some 247), .extract (.t 242) 1, none, 0, 0⟩,
                           ⟨(some 46), .mov (.t 246), none, 0, 0⟩,
                           ⟨(some 47), .mov (.t 247), none, 0, 0⟩] false)
                         (.seq
                          (.region [⟨(some 249), .build [(.d (.sc (.int .u8 0))), (.d (.sc (.int .i64 0))), (.d (.sc (.int .i64 0))), (.d (.sc (.int .i64 0)))] [(0, 1, (.c (.d (.sc (.int .u8 23))))), (2, 1, (.c (.d (.sc (.int .i64 1)))))], none, 0, 0⟩,
                            ⟨(some 250), .call 34 [], none, 0, 0⟩,
                            ⟨(some 251), .buildSlice 4 2 [(.sc (.int .u8 0)), (.sc (.int .i64 0)), (.sc (.int .i64 0)), (.sc (.int .i64 0))] [(0, (.t 249)), (1, (.t 250))], none, 0, 0⟩,
                            ⟨(some 252), .call 11 [(.t 251), (.c (.d (.sc (.int .i64 0))))], none, 0, 0⟩,
                            ⟨(some 248), .mov (.t 252), none, 0, 0⟩,
                            ⟨(some 253), .extract (.t 248) 0, none, 0, 0⟩,
                            ⟨(some 254), .extract (.t 248) 1, none, 0, 0⟩,
                            ⟨(some 48), .mov (.t 253), none, 0, 0⟩,
                            ⟨(some 49), .mov (.t 254), none, 0, 0⟩] false)
                          (.seq
                           (.region [⟨(some 255), .mov (.t 17), none, 0, 0⟩,
                             ⟨(some 256), .bin .eql (.t 255) (.c (.d (.sc (.int .i64 2)))), none, 0, 0⟩,
                             ⟨(some 257), .mov (.t 256), none, 0, 0⟩,
                             ⟨(some 258), .mov (.t 19), (some (257, true)), 0, 0⟩,
                             ⟨(some 259), .bin .eql (.t 258) (.c (.d (.sc (.int .i64 2)))), (some (257, true)), 0, 0⟩,
                             ⟨(some 260), .pick (.t 257) (.t 259) (.c (.d (.sc (.bool false)))), none, 0, 0⟩,
                             ⟨(some 261), .mov (.t 260), none, 0, 0⟩,
                             ⟨(some 262), .mov (.t 21), (some (261, true)), 0, 0⟩,
                             ⟨(some 263), .bin .eql (.t 262) (.c (.d (.sc (.int .i64 2)))), (some (261, true)), 0, 0⟩,
                             ⟨(some 264), .pick (.t 261) (.t 263) (.c (.d (.sc (.bool false)))), none, 0, 0⟩,
                             ⟨(some 265), .mov (.t 264), none, 0, 0⟩,
                             ⟨(some 266), .mov (.t 23), (some (265, true)), 0, 0⟩,
                             ⟨(some 267), .bin .eql (.t 266) (.c (.d (.sc (.int .i64 2)))), (some (265, true)), 0, 0⟩,
                             ⟨(some 268), .pick (.t 265) (.t 267) (.c (.d (.sc (.bool false)))), none, 0, 0⟩,
                             ⟨(some 269), .mov (.t 268), none, 0, 0⟩,
                             ⟨(some 270), .mov (.t 25), (some (269, true)), 0, 0⟩,
                             ⟨(some 271), .bin .eql (.t 270) (.c (.d (.sc (.int .i64 2)))), (some (269, true)), 0, 0⟩,
                             ⟨(some 272), .pick (.t 269) (.t 271) (.c (.d (.sc (.bool false)))), none, 0, 0⟩,
                             ⟨(some 273), .mov (.t 272), none, 0, 0⟩,
                             ⟨(some 274), .mov (.t 27), (some (273, true)), 0, 0⟩,
                             ⟨(some 275), .bin .eql (.t 274) (.c (.d (.sc (.int .i64 16)))), (some (273, true)), 0, 0⟩,
                             ⟨(some 276), .pick (.t 273) (.t 275) (.c (.d (.sc (.bool false)))), none, 0, 0⟩,
                             ⟨(some 277), .mov (.t 276), none, 0, 0⟩,
                             ⟨(some 278), .mov (.t 29), (some (277, true)), 0, 0⟩,
                             ⟨(some 279), .bin .eql (.t 278) (.c (.d (.sc (.int .i64 2)))), (some (277, true)), 0, 0⟩,
                             ⟨(some 280), .pick (.t 277) (.t 279) (.c (.d (.sc (.bool false)))), none, 0, 0⟩,
                             ⟨(some 281), .mov (.t 280), none, 0, 0⟩,
                             ⟨(some 282), .mov (.t 31), (some (281, true)), 0, 0⟩,
                             ⟨(some 283), .bin .eql (.t 282) (.c (.d (.sc (.int .i64 2)))), (some (281, true)), 0, 0⟩,
                             ⟨(some 284), .pick (.t 281) (.t 283) (.c (.d (.sc (.bool false)))), none, 0, 0⟩,
                             ⟨(some 285), .mov (.t 284), none, 0, 0⟩,
                             ⟨(some 286), .mov (.t 33), (some (285, true)), 0, 0⟩,
                             ⟨(some 287), .bin .eql (.t 286) (.c (.d (.sc (.int .i64 36)))), (some (285, true)), 0, 0⟩,
                             ⟨(some 288), .pick (.t 285) (.t 287) (.c (.d (.sc (.bool false)))), none, 0, 0⟩,
                             ⟨(some 289), .mov (.t 288), none, 0, 0⟩,
                             ⟨(some 290), .mov (.t 39), (some (289, true)), 0, 0⟩,
                             ⟨(some 291), .bin .eql (.t 290) (.c (.d (.sc (.int .i64 36)))), (some (289, true)), 0, 0⟩,
                             ⟨(some 292), .pick (.t 289) (.t 291) (.c (.d (.sc (.bool false)))), none, 0, 0⟩,
                             ⟨(some 293), .mov (.t 292), none, 0, 0⟩,
                             ⟨(some 294), .mov (.t 41), (some (293, true)), 0, 0⟩,
                             ⟨(some 295), .bin .eql (.t 294) (.c (.d (.sc (.int .i64 36)))), (some (293, true)), 0, 0⟩,
                             ⟨(some 296), .pick (.t 293) (.t 295) (.c (.d (.sc (.bool false)))), none, 0, 0⟩,
                             ⟨(some 297), .mov (.t 296), none, 0, 0⟩,
                             ⟨(some 298), .mov (.t 43), (some (297, true)), 0, 0⟩,
                             ⟨(some 299), .bin .eql (.t 298) (.c (.d (.sc (.int .i64 36)))), (some (297, true)), 0, 0⟩,
                             ⟨(some 300), .pick (.t 297) (.t 299) (.c (.d (.sc (.bool false)))), none, 0, 0⟩,
                             ⟨(some 50), .mov (.t 300), none, 0, 0⟩] false)
                           (.seq
                            (.region [⟨(some 301), .mov (.c (.d (.sc (.bool true)))), none, 0, 0⟩,
                              ⟨(some 302), .mov (.t 50), (some (301, true)), 0, 0⟩,
                              ⟨(some 303), .pick (.t 301) (.t 302) (.c (.d (.sc (.bool false)))), none, 0, 0⟩,
                              ⟨(some 304), .mov (.t 303), none, 0, 0⟩,
                              ⟨(some 305), .mov (.t 3), (some (304, true)), 0, 0⟩,
                              ⟨(some 306), .slice 4 (.t 305) (some (.c (.d (.sc (.int .i64 1))))) none none, (some (304, true)), 0, 0⟩,
                              ⟨(some 307), .call 15 [(.t 306)], (some (304, true)), 0, 0⟩,
                              ⟨(some 308), .bin .eql (.t 307) (.c (.d (.sc (.int .i64 0)))), (some (304, true)), 0, 0⟩,
                              ⟨(some 309), .pick (.t 304) (.t 308) (.c (.d (.sc (.bool false)))), none, 0, 0⟩,
                              ⟨(some 310), .mov (.t 309), none, 0, 0⟩,
                              ⟨(some 311), .mov (.t 35), (some (310, true)), 0, 0⟩,
                              ⟨(some 312), .bin .eql (.t 311) (.c (.d (.sc (.int .i64 0)))), (some (310, true)), 0, 0⟩,
                              ⟨(some 313), .pick (.t 310) (.t 312) (.c (.d (.sc (.bool false)))), none, 0, 0⟩,
                              ⟨(some 314), .mov (.t 313), none, 0, 0⟩,
                              ⟨(some 315), .mov (.t 34), (some (314, true)), 0, 0⟩,
                              ⟨(some 316), .buildSlice 1 4 [(.sc (.bool false))] [(0, (.c (.d (.sc (.bool true))))), (1, (.c (.d (.sc (.bool false))))), (2, (.c (.d (.sc (.bool false))))), (3, (.c (.d (.sc (.bool true)))))], (some (314, true)), 0, 0⟩,
                              ⟨(some 317), .call 18 [(.t 315), (.t 316)], (some (314, true)), 0, 0⟩,
                              ⟨(some 318), .pick (.t 314) (.t 317) (.c (.d (.sc (.bool false)))), none, 0, 0⟩,
                              ⟨(some 319), .mov (.t 318), none, 0, 0⟩,
                              ⟨(some 320), .mov (.t 37), (some (319, true)), 0, 0⟩,
                              ⟨(some 321), .bin .eql (.t 320) (.c (.d (.sc (.int .i64 0)))), (some (319, true)), 0, 0⟩,
                              ⟨(some 322), .pick (.t 319) (.t 321) (.c (.d (.sc (.bool false)))), none, 0, 0⟩,
                              ⟨(some 323), .mov (.t 322), none, 0, 0⟩,
                              ⟨(some 324), .mov (.t 36), (some (323, true)), 0, 0⟩,
                              ⟨(some 325), .buildSlice 1 4 [(.sc (.int .u64 0))] [(0, (.c (.d (.sc (.int .u64 3))))), (1, (.c (.d (.sc (.int .u64 0))))), (2, (.c (.d (.sc (.int .u64 0))))), (3, (.c (.d (.sc (.int .u64 0)))))], (some (323, true)), 0, 0⟩,
                              ⟨(some 326), .call 31 [(.t 324), (.t 325)], (some (323, true)), 0, 0⟩,
                              ⟨(some 327), .pick (.t 323) (.t 326) (.c (.d (.sc (.bool false)))), none, 0, 0⟩,
                              ⟨(some 328), .mov (.t 327), none, 0, 0⟩,
                              ⟨(some 329), .mov (.t 45), (some (328, true)), 0, 0⟩,
                              ⟨(some 330), .bin .eql (.t 329) (.c (.d (.sc (.int .i64 0)))), (some (328, true)), 0, 0⟩,
                              ⟨(some 331), .pick (.t 328) (.t 330) (.c (.d (.sc (.bool false)))), none, 0, 0⟩,
                              ⟨(some 332), .mov (.t 331), none, 0, 0⟩,
                              ⟨(some 333), .mov (.t 44), (some (332, true)), 0, 0⟩,
                              ⟨(some 334), .buildSlice 1 4 [(.sc (.int .i64 0))] [(0, (.c (.d (.sc (.int .i64 0))))), (1, (.c (.d (.sc (.int .i64 4096))))), (2, (.c (.d (.sc (.int .i64 4096))))), (3, (.c (.d (.sc (.int .i64 0)))))], (some (332, true)), 0, 0⟩,
                              ⟨(some 335), .call 17 [(.t 333), (.t 334)], (some (332, true)), 0, 0⟩,
                              ⟨(some 336), .pick (.t 332) (.t 335) (.c (.d (.sc (.bool false)))), none, 0, 0⟩,
                              ⟨(some 337), .mov (.t 336), none, 0, 0⟩,
                              ⟨(some 338), .mov (.t 47), (some (337, true)), 0, 0⟩,
                              ⟨(some 339), .bin .eql (.t 338) (.c (.d (.sc (.int .i64 0)))), (some (337, true)), 0, 0⟩,
                              ⟨(some 340), .pick (.t 337) (.t 339) (.c (.d (.sc (.bool false)))), none, 0, 0⟩,
                              ⟨(some 341), .mov (.t 340), none, 0, 0⟩,
                              ⟨(some 342), .mov (.t 46), (some (341, true)), 0, 0⟩,
                              ⟨(some 343), .buildSlice 1 1 [(.sc (.int .u64 0))] [(0, (.c (.d (.sc (.int .u64 0)))))], (some (341, true)), 0, 0⟩,
                              ⟨(some 344), .call 31 [(.t 342), (.t 343)], (some (341, true)), 0, 0⟩,
                              ⟨(some 345), .pick (.t 341) (.t 344) (.c (.d (.sc (.bool false)))), none, 0, 0⟩,
                              ⟨(some 346), .mov (.t 345), none, 0, 0⟩,
                              ⟨(some 347), .mov (.t 49), (some (346, true)), 0, 0⟩,
                              ⟨(some 348), .bin .eql (.t 347) (.c (.d (.sc (.int .i64 0)))), (some (346, true)), 0, 0⟩,
                              ⟨(some 349), .pick (.t 346) (.t 348) (.c (.d (.sc (.bool false)))), none, 0, 0⟩,
                              ⟨(some 350), .mov (.t 349), none, 0, 0⟩,
                              ⟨(some 351), .mov (.t 48), (some (350, true)), 0, 0⟩,
                              ⟨(some 352), .buildSlice 1 1 [(.sc (.int .i64 0))] [(0, (.c (.d (.sc (.int .i64 1)))))], (some (350, true)), 0, 0⟩,
                              ⟨(some 353), .call 17 [(.t 351), (.t 352)], (some (350, true)), 0, 0⟩,
                              ⟨(some 354), .pick (.t 350) (.t 353) (.c (.d (.sc (.bool false)))), none, 0, 0⟩,
                              ⟨(some 355), .mov (.t 354), none, 0, 0⟩,
                              ⟨(some 356), .call 22 [], (some (355, true)), 0, 0⟩,
                              ⟨(some 357), .pick (.t 355) (.t 356) (.c (.d (.sc (.bool false)))), none, 0, 0⟩,
                              ⟨(some 0), .mov (.t 357), none, 0, 0⟩] false)
                            .ret))))))))))))))))))))))))))), false⟩
/-- wreckage/flow.Next -/
def t11 : AFn := ⟨2, 23, [.t 4, .t 5],
 (.seq
  (.region [⟨(some 4), .mov (.c (.own [] .full)), none, 0, 0⟩,
    ⟨(some 5), .mov (.c (.d (.sc (.int .i64 0)))), none, 0, 0⟩] false)
  (.seq
   (.seq
    (.region [⟨(some 7), .mov (.t 0), none, 0, 0⟩,
      ⟨(some 8), .call 15 [(.t 7)], none, 0, 0⟩,
      ⟨(some 6), .mov (.t 8), none, 0, 0⟩] false)
    (.seq
     (.region [⟨(some 9), .mov (.t 6), none, 0, 0⟩,
       ⟨(some 10), .bin .neq (.t 9) (.c (.d (.sc (.int .i64 0)))), none, 0, 0⟩] false)
     (.cond (.t 10)
      (.seq
       (.region [⟨(some 11), .mov (.t 6), none, 0, 0⟩,
         ⟨(some 4), .mov (.c (.own [] .full)), none, 0, 0⟩,
         ⟨(some 5), .mov (.t 11), none, 0, 0⟩] false)
       .ret)
      .skip)))
   (.seq
    (.seq
     (.region [⟨(some 12), .mov (.t 1), none, 0, 0⟩,
       ⟨(some 13), .bin .lss (.t 12) (.c (.d (.sc (.int .i64 0)))), none, 0, 0⟩,
       ⟨(some 14), .mov (.t 13), none, 0, 0⟩,
       ⟨(some 15), .mov (.t 1), (some (14, false)), 0, 0⟩,
       ⟨(some 16), .mov (.t 0), (some (14, false)), 0, 0⟩,
       ⟨(some 17), .len (.t 16), (some (14, false)), 0, 0⟩,
       ⟨(some 18), .bin .geq (.t 15) (.t 17), (some (14, false)), 0, 0⟩,
       ⟨(some 19), .pick (.t 14) (.c (.d (.sc (.bool true)))) (.t 18), none, 0, 0⟩] false)
     (.cond (.t 19)
      (.seq
       (.region [⟨(some 4), .mov (.c (.own [] .full)), none, 0, 0⟩,
         ⟨(some 5), .mov (.c (.d (.sc (.int .i64 2)))), none, 0, 0⟩] false)
       .ret)
      .skip))
    (.seq
     (.region [⟨(some 20), .mov (.t 0), none, 0, 0⟩,
       ⟨(some 21), .mov (.t 1), none, 0, 0⟩,
       ⟨(some 22), .call 36 [(.t 20), (.t 21)], none, 0, 0⟩,
       ⟨(some 4), .mov (.t 22), none, 0, 0⟩,
       ⟨(some 5), .mov (.c (.d (.sc (.int .i64 0)))), none, 0, 0⟩] false)
     .ret)))), false⟩
/-- wreckage/flow.Reached -/
def t13 : AFn := ⟨1, 23, [.t 2, .t 3],
 (.seq
  (.region [⟨(some 2), .mov (.c (.own [] .full)), none, 0, 0⟩,
    ⟨(some 3), .mov (.c (.d (.sc (.int .i64 0)))), none, 0, 0⟩] false)
  (.seq
   (.seq
    (.region [⟨(some 6), .mov (.t 0), none, 0, 0⟩,
      ⟨(some 7), .call 15 [(.t 6)], none, 0, 0⟩,
      ⟨(some 4), .mov (.t 7), none, 0, 0⟩] false)
    (.seq
     (.region [⟨(some 8), .mov (.t 4), none, 0, 0⟩,
       ⟨(some 9), .bin .neq (.t 8) (.c (.d (.sc (.int .i64 0)))), none, 0, 0⟩] false)
     (.cond (.t 9)
      (.seq
       (.region [⟨(some 10), .mov (.t 4), none, 0, 0⟩,
         ⟨(some 2), .mov (.c (.own [] .full)), none, 0, 0⟩,
         ⟨(some 3), .mov (.t 10), none, 0, 0⟩] false)
       .ret)
      .skip)))
   (.seq
    (.region [⟨(some 11), .mov (.t 0), none, 0, 0⟩,
      ⟨(some 12), .len (.t 11), none, 0, 0⟩,
      ⟨(some 13), .makeSlice 1 1 [(.sc (.bool false))] (.t 12) (.t 12), none, 0, 1⟩,
      ⟨(some 5), .alloc [(.own [] .full)], none, 0, 0⟩,
      ⟨none, .store 1 (.t 5) (.t 13), none, 0, 0⟩] false)
    (.seq
     (.region [⟨(some 14), .mov (.t 0), none, 0, 0⟩,
       ⟨(some 15), .makeFunc 39 [(.t 5)], none, 0, 0⟩,
       ⟨(some 16), .call 38 [(.t 14), (.t 15)], none, 0, 0⟩] false)
     (.seq
      (.region [⟨(some 17), .load 1 false (.t 5), none, 0, 0⟩,
        ⟨(some 18), .load 1 false (.t 5), none, 0, 0⟩,
        ⟨(some 19), .len (.t 18), none, 0, 0⟩,
        ⟨(some 20), .bin .sub (.t 19) (.c (.d (.sc (.int .i64 1)))), none, 0, 0⟩,
        ⟨(some 21), .indexAddr 1 (.t 17) (.t 20), none, 0, 0⟩,
        ⟨none, .store 1 (.t 21) (.c (.d (.sc (.bool true)))), none, 0, 0⟩] false)
      (.seq
       (.region [⟨(some 22), .load 1 false (.t 5), none, 0, 0⟩,
         ⟨(some 2), .mov (.t 22), none, 0, 0⟩,
         ⟨(some 3), .mov (.c (.d (.sc (.int .i64 0)))), none, 0, 0⟩] false)
       .ret)))))), false⟩
/-- wreckage/flow.Check -/
def t15 : AFn := ⟨1, 53, [.t 2],
 (.seq
  (.region [⟨(some 2), .mov (.c (.d (.sc (.int .i64 0)))), none, 0, 0⟩] false)
  (.seq
   (.region [⟨(some 6), .mov (.t 0), none, 0, 0⟩,
     ⟨(some 7), .len (.t 6), none, 0, 0⟩,
     ⟨(some 3), .mov (.t 7), none, 0, 0⟩] false)
   (.seq
    (.seq
     (.region [⟨(some 8), .mov (.t 3), none, 0, 0⟩,
       ⟨(some 9), .bin .eql (.t 8) (.c (.d (.sc (.int .i64 0)))), none, 0, 0⟩,
       ⟨(some 10), .mov (.t 9), none, 0, 0⟩,
       ⟨(some 11), .mov (.t 3), (some (10, false)), 0, 0⟩,
       ⟨(some 12), .bin .gtr (.t 11) (.c (.d (.sc (.int .i64 200)))), (some (10, false)), 0, 0⟩,
       ⟨(some 13), .pick (.t 10) (.c (.d (.sc (.bool true)))) (.t 12), none, 0, 0⟩,
       ⟨(some 14), .mov (.t 13), none, 0, 0⟩,
       ⟨(some 15), .mov (.t 0), (some (14, false)), 0, 0⟩,
       ⟨(some 16), .mov (.t 3), (some (14, false)), 0, 0⟩,
       ⟨(some 17), .bin .sub (.t 16) (.c (.d (.sc (.int .i64 1)))), (some (14, false)), 0, 0⟩,
       ⟨(some 18), .indexAddr 4 (.t 15) (.t 17), (some (14, false)), 0, 0⟩,
       ⟨(some 19), .load 4 true (.t 18), (some (14, false)), 0, 0⟩,
       ⟨(some 20), .build [(.d (.sc (.int .u8 0))), (.d (.sc (.int .i64 0))), (.d (.sc (.int .i64 0))), (.d (.sc (.int .i64 0)))] [(0, 1, (.c (.d (.sc (.int .u8 34))))), (1, 1, (.c (.d (.sc (.int .i64 (-1))))))], (some (14, false)), 0, 0⟩,
       ⟨(some 21), .eqA true 4 [(0, 1), (1, 1), (2, 1), (3, 1)] (.t 19) (.t 20), (some (14, false)), 0, 0⟩,
       ⟨(some 22), .pick (.t 14) (.c (.d (.sc (.bool true)))) (.t 21), none, 0, 0⟩] false)
     (.cond (.t 22)
      (.seq
       (.region [⟨(some 2), .mov (.c (.d (.sc (.int .i64 8)))), none, 0, 0⟩] false)
       .ret)
      .skip))
    (.seq
     (.seq
      (.region [⟨(some 23), .mov (.t 0), none, 0, 0⟩,
        ⟨(some 24), .len (.t 23), none, 0, 0⟩,
        ⟨(some 25), .mov (.c (.d (.sc (.int .i64 0)))), none, 0, 0⟩] false)
      (.block 0
       (.loop
        (.seq
         (.region [⟨(some 26), .bin .lss (.t 25) (.t 24), none, 0, 0⟩] false)
         (.seq
          (.cond (.t 26)
           .skip
           (.exit 0))
          (.seq
           (.block 1
            (.seq
             (.region [⟨(some 27), .indexAddr 4 (.t 23) (.t 25), none, 0, 0⟩,
               ⟨(some 28), .load 4 true (.t 27), none, 0, 0⟩,
               ⟨(some 5), .alloc [(.d (.sc (.int .u8 0))), (.d (.sc (.int .i64 0))), (.d (.sc (.int .i64 0))), (.d (.sc (.int .i64 0)))], none, 0, 0⟩,
               ⟨none, .store 4 (.t 5) (.t 28), none, 0, 0⟩] false)
             (.seq
              (.seq
               (.region [⟨(some 29), .load 4 true (.t 5), none, 0, 0⟩,
                 ⟨(some 30), .call 40 [(.t 29)], none, 0, 0⟩,
                 ⟨(some 31), .bin .neq (.t 30) (.c (.d (.sc (.int .i64 0)))), none, 0, 0⟩] false)
               (.cond (.t 31)
                (.seq
                 (.region [⟨(some 2), .mov (.c (.d (.sc (.int .i64 8)))), none, 0, 0⟩] false)
                 .ret)
                .skip))
              (.seq
               (.region [⟨(some 32), .fieldAddr 0 (.t 5), none, 0, 0⟩,
                 ⟨(some 33), .load 1 false (.t 32), none, 0, 0⟩,
                 ⟨(some 34), .bin .eql (.t 33) (.c (.d (.sc (.int .u8 22)))), none, 0, 0⟩,
                 ⟨(some 35), .mov (.t 34), none, 0, 0⟩,
                 ⟨(some 36), .fieldAddr 1 (.t 5), (some (35, true)), 0, 0⟩,
                 ⟨(some 37), .load 1 false (.t 36), (some (35, true)), 0, 0⟩,
                 ⟨(some 38), .mov (.t 3), (some (35, true)), 0, 0⟩,
                 ⟨(some 39), .bin .geq (.t 37) (.t 38), (some (35, true)), 0, 0⟩,
                 ⟨(some 40), .pick (.t 35) (.t 39) (.c (.d (.sc (.bool false)))), none, 0, 0⟩,
                 ⟨(some 41), .mov (.t 40), none, 0, 0⟩,
                 ⟨(some 42), .fieldAddr 0 (.t 5), (some (41, false)), 0, 0⟩,
                 ⟨(some 43), .load 1 false (.t 42), (some (41, false)), 0, 0⟩,
                 ⟨(some 44), .bin .eql (.t 43) (.c (.d (.sc (.int .u8 23)))), (some (41, false)), 0, 0⟩,
                 ⟨(some 45), .mov (.t 44), (some (41, false)), 0, 0⟩,
                 ⟨(some 46), .fieldAddr 2 (.t 5), (some (45, true)), 0, 0⟩,
                 ⟨(some 47), .load 1 false (.t 46), (some (45, true)), 0, 0⟩,
                 ⟨(some 48), .mov (.t 3), (some (45, true)), 0, 0⟩,
                 ⟨(some 49), .bin .geq (.t 47) (.t 48), (some (45, true)), 0, 0⟩,
                 ⟨(some 50), .pick (.t 45) (.t 49) (.c (.d (.sc (.bool false)))), (some (41, false)), 0, 0⟩,
                 ⟨(some 51), .pick (.t 41) (.c (.d (.sc (.bool true)))) (.t 50), none, 0, 0⟩] false)
               (.cond (.t 51)
                (.seq
                 (.region [⟨(some 2), .mov (.c (.d (.sc (.int .i64 8)))), none, 0, 0⟩] false)
                 .ret)
                .skip)))))
           (.region [⟨(some 52), .bin .add (.t 25) (.c (.d (.sc (.int .i64 1)))), none, 0, 0⟩,
             ⟨(some 25), .mov (.t 52), none, 0, 0⟩] false)))))))
     (.seq
      (.region [⟨(some 2), .mov (.c (.d (.sc (.int .i64 0)))), none, 0, 0⟩] false)
      .ret))))), false⟩
/-- wreckage/wreckageref04.SameInts -/
def t17 : AFn := ⟨2, 26, [.t 4],
 (.seq
  (.region [⟨(some 4), .mov (.c (.d (.sc (.bool false)))), none, 0, 0⟩] false)
  (.seq
   (.seq
    (.region [⟨(some 6), .mov (.t 0), none, 0, 0⟩,
      ⟨(some 7), .len (.t 6), none, 0, 0⟩,
      ⟨(some 8), .mov (.t 1), none, 0, 0⟩,
      ⟨(some 9), .len (.t 8), none, 0, 0⟩,
      ⟨(some 10), .bin .neq (.t 7) (.t 9), none, 0, 0⟩] false)
    (.cond (.t 10)
     (.seq
      (.region [⟨(some 4), .mov (.c (.d (.sc (.bool false)))), none, 0, 0⟩] false)
      .ret)
     .skip))
   (.seq
    (.seq
     (.region [⟨(some 5), .mov (.c (.d (.sc (.int .i64 0)))), none, 0, 0⟩] false)
     (.block 0
      (.loop
       (.seq
        (.seq
         (.region [⟨(some 11), .mov (.t 5), none, 0, 0⟩,
           ⟨(some 12), .mov (.t 0), none, 0, 0⟩,
           ⟨(some 13), .len (.t 12), none, 0, 0⟩,
           ⟨(some 14), .bin .lss (.t 11) (.t 13), none, 0, 0⟩] false)
         (.cond (.t 14)
          .skip
          (.exit 0)))
        (.seq
         (.block 1
          (.seq
           (.region [⟨(some 17), .mov (.t 0), none, 0, 0⟩,
             ⟨(some 18), .mov (.t 5), none, 0, 0⟩,
             ⟨(some 19), .indexAddr 1 (.t 17) (.t 18), none, 3, 0⟩,
             ⟨(some 20), .load 1 false (.t 19), none, 7, 0⟩,
             ⟨(some 21), .mov (.t 1), none, 0, 0⟩,
             ⟨(some 22), .mov (.t 5), none, 0, 0⟩,
             ⟨(some 23), .indexAddr 1 (.t 21) (.t 22), none, 48, 0⟩,
             ⟨(some 24), .load 1 false (.t 23), none, 112, 0⟩,
             ⟨(some 25), .bin .neq (.t 20) (.t 24), none, 255, 0⟩] true)
           (.cond (.t 25)
            (.seq
             (.region [⟨(some 4), .mov (.c (.d (.sc (.bool false)))), none, 0, 0⟩] false)
             .ret)
            .skip)))
         (.region [⟨(some 15), .mov (.t 5), none, 0, 0⟩,
           ⟨(some 16), .bin .add (.t 15) (.c (.d (.sc (.int .i64 1)))), none, 0, 0⟩,
           ⟨(some 5), .mov (.t 16), none, 0, 0⟩] false))))))
    (.seq
     (.region [⟨(some 4), .mov (.c (.d (.sc (.bool true)))), none, 0, 0⟩] false)
     .ret)))), false⟩
/-- wreckage/wreckageref07.SameBools -/
def t18 : AFn := ⟨2, 26, [.t 4],
 (.seq
  (.region [⟨(some 4), .mov (.c (.d (.sc (.bool false)))), none, 0, 0⟩] false)
  (.seq
   (.seq
    (.region [⟨(some 6), .mov (.t 0), none, 0, 0⟩,
      ⟨(some 7), .len (.t 6), none, 0, 0⟩,
      ⟨(some 8), .mov (.t 1), none, 0, 0⟩,
      ⟨(some 9), .len (.t 8), none, 0, 0⟩,
      ⟨(some 10), .bin .neq (.t 7) (.t 9), none, 0, 0⟩] false)
    (.cond (.t 10)
     (.seq
      (.region [⟨(some 4), .mov (.c (.d (.sc (.bool false)))), none, 0, 0⟩] false)
      .ret)
     .skip))
   (.seq
    (.seq
     (.region [⟨(some 5), .mov (.c (.d (.sc (.int .i64 0)))), none, 0, 0⟩] false)
     (.block 0
      (.loop
       (.seq
        (.seq
         (.region [⟨(some 11), .mov (.t 5), none, 0, 0⟩,
           ⟨(some 12), .mov (.t 0), none, 0, 0⟩,
           ⟨(some 13), .len (.t 12), none, 0, 0⟩,
           ⟨(some 14), .bin .lss (.t 11) (.t 13), none, 0, 0⟩] false)
         (.cond (.t 14)
          .skip
          (.exit 0)))
        (.seq
         (.block 1
          (.seq
           (.region [⟨(some 17), .mov (.t 0), none, 0, 0⟩,
             ⟨(some 18), .mov (.t 5), none, 0, 0⟩,
             ⟨(some 19), .indexAddr 1 (.t 17) (.t 18), none, 3, 0⟩,
             ⟨(some 20), .load 1 false (.t 19), none, 7, 0⟩,
             ⟨(some 21), .mov (.t 1), none, 0, 0⟩,
             ⟨(some 22), .mov (.t 5), none, 0, 0⟩,
             ⟨(some 23), .indexAddr 1 (.t 21) (.t 22), none, 48, 0⟩,
             ⟨(some 24), .load 1 false (.t 23), none, 112, 0⟩,
             ⟨(some 25), .eqb true (.t 20) (.t 24), none, 255, 0⟩] true)
           (.cond (.t 25)
            (.seq
             (.region [⟨(some 4), .mov (.c (.d (.sc (.bool false)))), none, 0, 0⟩] false)
             .ret)
            .skip)))
         (.region [⟨(some 15), .mov (.t 5), none, 0, 0⟩,
           ⟨(some 16), .bin .add (.t 15) (.c (.d (.sc (.int .i64 1)))), none, 0, 0⟩,
           ⟨(some 5), .mov (.t 16), none, 0, 0⟩] false))))))
    (.seq
     (.region [⟨(some 4), .mov (.c (.d (.sc (.bool true)))), none, 0, 0⟩] false)
     .ret)))), false⟩
/-- wreckage/wreckagelaw07.alive -/
def t22 : AFn := ⟨0, 33, [.t 0],
 (.seq
  (.region [⟨(some 0), .mov (.c (.d (.sc (.bool false)))), none, 0, 0⟩] false)
  (.seq
   (.region [⟨(some 6), .build [(.d (.sc (.int .u8 0))), (.d (.sc (.int .i64 0))), (.d (.sc (.int .i64 0))), (.d (.sc (.int .i64 0)))] [(0, 1, (.c (.d (.sc (.int .u8 4))))), (1, 1, (.c (.d (.sc (.int .i64 1)))))], none, 0, 0⟩,
     ⟨(some 7), .call 43 [(.t 6)], none, 0, 0⟩,
     ⟨(some 8), .call 23 [(.t 7), (.c (.d (.sc (.int .i64 1)))), (.c (.d (.sc (.int .i64 3))))], none, 0, 0⟩,
     ⟨(some 5), .mov (.t 8), none, 0, 0⟩,
     ⟨(some 9), .extract (.t 5) 0, none, 0, 0⟩,
     ⟨(some 10), .extract (.t 5) 1, none, 0, 0⟩,
     ⟨(some 1), .mov (.t 9), none, 0, 0⟩,
     ⟨(some 2), .mov (.t 10), none, 0, 0⟩] false)
   (.seq
    (.region [⟨(some 12), .build [(.d (.sc (.int .u8 0))), (.d (.sc (.int .i64 0))), (.d (.sc (.int .i64 0))), (.d (.sc (.int .i64 0)))] [(0, 1, (.c (.d (.sc (.int .u8 31)))))], none, 0, 0⟩,
      ⟨(some 13), .call 43 [(.t 12)], none, 0, 0⟩,
      ⟨(some 14), .call 23 [(.t 13), (.c (.d (.sc (.int .i64 1)))), (.c (.d (.sc (.int .i64 3))))], none, 0, 0⟩,
      ⟨(some 11), .mov (.t 14), none, 0, 0⟩,
      ⟨(some 15), .extract (.t 11) 0, none, 0, 0⟩,
      ⟨(some 16), .extract (.t 11) 1, none, 0, 0⟩,
      ⟨(some 3), .mov (.t 15), none, 0, 0⟩,
      ⟨(some 4), .mov (.t 16), none, 0, 0⟩] false)
    (.seq
     (.region [⟨(some 17), .mov (.t 2), none, 0, 0⟩,
       ⟨(some 18), .bin .eql (.t 17) (.c (.d (.sc (.int .i64 0)))), none, 0, 0⟩,
       ⟨(some 19), .mov (.t 18), none, 0, 0⟩,
       ⟨(some 20), .mov (.t 1), (some (19, true)), 0, 0⟩,
       ⟨(some 21), .buildSlice 1 6 [(.sc (.int .u64 0))] [(0, (.c (.d (.sc (.int .u64 1))))), (1, (.c (.d (.sc (.int .u64 1))))), (2, (.c (.d (.sc (.int .u64 3))))), (3, (.c (.d (.sc (.int .u64 1))))), (4, (.c (.d (.sc (.int .u64 3))))), (5, (.c (.d (.sc (.int .u64 0)))))], (some (19, true)), 0, 0⟩,
       ⟨(some 22), .call 31 [(.t 20), (.t 21)], (some (19, true)), 0, 0⟩,
       ⟨(some 23), .pick (.t 19) (.t 22) (.c (.d (.sc (.bool false)))), none, 0, 0⟩,
       ⟨(some 24), .mov (.t 23), none, 0, 0⟩,
       ⟨(some 25), .mov (.t 4), (some (24, true)), 0, 0⟩,
       ⟨(some 26), .bin .eql (.t 25) (.c (.d (.sc (.int .i64 0)))), (some (24, true)), 0, 0⟩,
       ⟨(some 27), .pick (.t 24) (.t 26) (.c (.d (.sc (.bool false)))), none, 0, 0⟩,
       ⟨(some 28), .mov (.t 27), none, 0, 0⟩,
       ⟨(some 29), .mov (.t 3), (some (28, true)), 0, 0⟩,
       ⟨(some 30), .buildSlice 1 6 [(.sc (.int .u64 0))] [(0, (.c (.d (.sc (.int .u64 1))))), (1, (.c (.d (.sc (.int .u64 1))))), (2, (.c (.d (.sc (.int .u64 3))))), (3, (.c (.d (.sc (.int .u64 1))))), (4, (.c (.d (.sc (.int .u64 1))))), (5, (.c (.d (.sc (.int .u64 0)))))], (some (28, true)), 0, 0⟩,
       ⟨(some 31), .call 31 [(.t 29), (.t 30)], (some (28, true)), 0, 0⟩,
       ⟨(some 32), .pick (.t 28) (.t 31) (.c (.d (.sc (.bool false)))), none, 0, 0⟩,
       ⟨(some 0), .mov (.t 32), none, 0, 0⟩] false)
     .ret)))), false⟩
/-- wreckage/flow.Masks -/
def t23 : AFn := ⟨3, 87, [.t 6, .t 7],
 (.seq
  (.region [⟨(some 4), .box (.t 1), none, 0, 0⟩,
    ⟨(some 6), .mov (.c (.own [] .full)), none, 0, 0⟩,
    ⟨(some 7), .mov (.c (.d (.sc (.int .i64 0)))), none, 0, 0⟩] false)
  (.seq
   (.seq
    (.region [⟨(some 17), .mov (.t 0), none, 0, 0⟩,
      ⟨(some 18), .call 15 [(.t 17)], none, 0, 0⟩,
      ⟨(some 8), .mov (.t 18), none, 0, 0⟩] false)
    (.seq
     (.region [⟨(some 19), .mov (.t 8), none, 0, 0⟩,
       ⟨(some 20), .bin .neq (.t 19) (.c (.d (.sc (.int .i64 0)))), none, 0, 0⟩] false)
     (.cond (.t 20)
      (.seq
       (.region [⟨(some 21), .mov (.t 8), none, 0, 0⟩,
         ⟨(some 6), .mov (.c (.own [] .full)), none, 0, 0⟩,
         ⟨(some 7), .mov (.t 21), none, 0, 0⟩] false)
       .ret)
      .skip)))
   (.seq
    (.seq
     (.region [⟨(some 22), .mov (.t 2), none, 0, 0⟩,
       ⟨(some 23), .bin .lss (.t 22) (.c (.d (.sc (.int .i64 0)))), none, 0, 0⟩,
       ⟨(some 24), .mov (.t 23), none, 0, 0⟩,
       ⟨(some 25), .mov (.t 2), (some (24, false)), 0, 0⟩,
       ⟨(some 26), .bin .gtr (.t 25) (.c (.d (.sc (.int .i64 16)))), (some (24, false)), 0, 0⟩,
       ⟨(some 27), .pick (.t 24) (.c (.d (.sc (.bool true)))) (.t 26), none, 0, 0⟩,
       ⟨(some 28), .mov (.t 27), none, 0, 0⟩,
       ⟨(some 29), .load 1 false (.t 4), (some (28, false)), 0, 0⟩,
       ⟨(some 30), .bin .lss (.t 29) (.c (.d (.sc (.int .i64 0)))), (some (28, false)), 0, 0⟩,
       ⟨(some 31), .pick (.t 28) (.c (.d (.sc (.bool true)))) (.t 30), none, 0, 0⟩,
       ⟨(some 32), .mov (.t 31), none, 0, 0⟩,
       ⟨(some 33), .load 1 false (.t 4), (some (32, false)), 0, 0⟩,
       ⟨(some 34), .mov (.t 2), (some (32, false)), 0, 0⟩,
       ⟨(some 35), .bin .gtr (.t 33) (.t 34), (some (32, false)), 0, 0⟩,
       ⟨(some 36), .pick (.t 32) (.c (.d (.sc (.bool true)))) (.t 35), none, 0, 0⟩] false)
     (.cond (.t 36)
      (.seq
       (.region [⟨(some 6), .mov (.c (.own [] .full)), none, 0, 0⟩,
         ⟨(some 7), .mov (.c (.d (.sc (.int .i64 2)))), none, 0, 0⟩] false)
       .ret)
      .skip))
    (.seq
     (.region [⟨(some 37), .mov (.t 0), none, 0, 0⟩,
       ⟨(some 38), .len (.t 37), none, 0, 0⟩,
       ⟨(some 39), .makeSlice 1 8 [(.sc (.int .u64 0))] (.t 38) (.t 38), none, 0, 1⟩,
       ⟨(some 9), .alloc [(.own [] .full)], none, 0, 0⟩,
       ⟨none, .store 1 (.t 9) (.t 39), none, 0, 0⟩] false)
     (.seq
      (.seq
       (.region [⟨(some 40), .mov (.t 0), none, 0, 0⟩,
         ⟨(some 41), .len (.t 40), none, 0, 0⟩,
         ⟨(some 42), .mov (.c (.d (.sc (.int .i64 0)))), none, 0, 0⟩] false)
       (.block 0
        (.loop
         (.seq
          (.region [⟨(some 43), .bin .lss (.t 42) (.t 41), none, 0, 0⟩] false)
          (.seq
           (.cond (.t 43)
            .skip
            (.exit 0))
           (.seq
            (.block 1
             (.seq
              (.region [⟨(some 44), .mov (.t 42), none, 0, 0⟩,
                ⟨(some 45), .indexAddr 4 (.t 40) (.t 42), none, 0, 0⟩,
                ⟨(some 46), .load 4 true (.t 45), none, 0, 0⟩,
                ⟨(some 11), .alloc [(.d (.sc (.int .u8 0))), (.d (.sc (.int .i64 0))), (.d (.sc (.int .i64 0))), (.d (.sc (.int .i64 0)))], none, 0, 0⟩,
                ⟨(some 10), .mov (.t 44), none, 0, 0⟩,
                ⟨none, .store 4 (.t 11) (.t 46), none, 0, 0⟩] false)
              (.seq
               (.region [⟨(some 48), .load 4 true (.t 11), none, 0, 0⟩,
                 ⟨(some 49), .call 44 [(.t 48)], none, 0, 0⟩,
                 ⟨(some 47), .mov (.t 49), none, 0, 0⟩,
                 ⟨(some 50), .extract (.t 47) 0, none, 0, 0⟩,
                 ⟨(some 51), .extract (.t 47) 1, none, 0, 0⟩,
                 ⟨(some 52), .extract (.t 47) 2, none, 0, 0⟩,
                 ⟨(some 12), .mov (.t 50), none, 0, 0⟩,
                 ⟨(some 13), .mov (.t 51), none, 0, 0⟩,
                 ⟨(some 14), .mov (.t 52), none, 0, 0⟩] false)
               (.seq
                (.seq
                 (.region [⟨(some 53), .mov (.t 14), none, 0, 0⟩,
                   ⟨(some 54), .bin .neq (.t 53) (.c (.d (.sc (.int .i64 0)))), none, 0, 0⟩] false)
                 (.cond (.t 54)
                  (.seq
                   (.region [⟨(some 55), .mov (.t 14), none, 0, 0⟩,
                     ⟨(some 6), .mov (.c (.own [] .full)), none, 0, 0⟩,
                     ⟨(some 7), .mov (.t 55), none, 0, 0⟩] false)
                   .ret)
                  .skip))
                (.seq
                 (.region [⟨(some 56), .load 1 false (.t 9), none, 0, 0⟩,
                   ⟨(some 57), .mov (.t 10), none, 0, 0⟩,
                   ⟨(some 58), .mov (.t 13), none, 0, 0⟩,
                   ⟨(some 59), .call 45 [(.t 58)], none, 4, 0⟩,
                   ⟨(some 60), .indexAddr 1 (.t 56) (.t 57), none, 15, 0⟩,
                   ⟨none, .store 1 (.t 60) (.t 59), none, 31, 0⟩] true)
                 (.seq
                  (.region [⟨(some 61), .mov (.t 12), none, 0, 0⟩,
                    ⟨(some 62), .call 45 [(.t 61)], none, 1, 0⟩,
                    ⟨(some 63), .load 1 false (.t 9), none, 0, 0⟩,
                    ⟨(some 64), .mov (.t 10), none, 0, 0⟩,
                    ⟨(some 65), .indexAddr 1 (.t 63) (.t 64), none, 12, 0⟩,
                    ⟨(some 66), .load 1 false (.t 65), none, 28, 0⟩,
                    ⟨(some 67), .bin .or (.t 62) (.t 66), none, 63, 0⟩,
                    ⟨(some 68), .mov (.t 2), none, 0, 0⟩,
                    ⟨(some 69), .bin .shr (.t 67) (.t 68), none, 255, 0⟩,
                    ⟨(some 70), .bin .neq (.t 69) (.c (.d (.sc (.int .u64 0)))), none, 511, 0⟩] true)
                  (.cond (.t 70)
                   (.seq
                    (.region [⟨(some 6), .mov (.c (.own [] .full)), none, 0, 0⟩,
                      ⟨(some 7), .mov (.c (.d (.sc (.int .i64 16)))), none, 0, 0⟩] false)
                    .ret)
                   .skip)))))))
            (.region [⟨(some 71), .bin .add (.t 42) (.c (.d (.sc (.int .i64 1)))), none, 0, 0⟩,
              ⟨(some 42), .mov (.t 71), none, 0, 0⟩] false)))))))
      (.seq
       (.region [⟨(some 72), .mov (.t 0), none, 0, 0⟩,
         ⟨(some 73), .len (.t 72), none, 1, 0⟩,
         ⟨(some 74), .makeSlice 1 8 [(.sc (.int .u64 0))] (.t 73) (.t 73), none, 3, 1⟩,
         ⟨(some 75), .mov (.t 0), none, 0, 0⟩,
         ⟨(some 76), .len (.t 75), none, 8, 0⟩,
         ⟨(some 77), .makeSlice 1 1 [(.sc (.bool false))] (.t 76) (.t 76), none, 24, 0⟩,
         ⟨(some 15), .alloc [(.own [] .full)], none, 0, 0⟩,
         ⟨(some 16), .alloc [(.own [] .full)], none, 0, 0⟩,
         ⟨none, .store 1 (.t 15) (.t 74), none, 199, 0⟩,
         ⟨none, .store 1 (.t 16) (.t 77), none, 511, 0⟩] true)
       (.seq
        (.region [⟨(some 78), .mov (.t 0), none, 0, 0⟩,
          ⟨(some 79), .makeFunc 46 [(.t 4), (.t 16), (.t 15), (.t 9)], none, 0, 0⟩,
          ⟨(some 80), .call 38 [(.t 78), (.t 79)], none, 0, 0⟩] false)
        (.seq
         (.region [⟨(some 81), .load 1 false (.t 15), none, 0, 0⟩,
           ⟨(some 82), .load 1 false (.t 15), none, 0, 0⟩,
           ⟨(some 83), .len (.t 82), none, 0, 0⟩,
           ⟨(some 84), .bin .sub (.t 83) (.c (.d (.sc (.int .i64 1)))), none, 0, 0⟩,
           ⟨(some 85), .indexAddr 1 (.t 81) (.t 84), none, 0, 0⟩,
           ⟨none, .store 1 (.t 85) (.c (.d (.sc (.int .u64 0)))), none, 0, 0⟩] false)
         (.seq
          (.region [⟨(some 86), .load 1 false (.t 15), none, 0, 0⟩,
            ⟨(some 6), .mov (.t 86), none, 0, 0⟩,
            ⟨(some 7), .mov (.c (.d (.sc (.int .i64 0)))), none, 0, 0⟩] false)
          .ret))))))))), false⟩
/-- wreckage/flow.Depths -/
def t29 : AFn := ⟨2, 45, [.t 4, .t 5],
 (.seq
  (.region [⟨(some 3), .box (.t 1), none, 0, 0⟩,
    ⟨(some 4), .mov (.c (.own [] .full)), none, 0, 0⟩,
    ⟨(some 5), .mov (.c (.d (.sc (.int .i64 0)))), none, 0, 0⟩] false)
  (.seq
   (.seq
    (.region [⟨(some 10), .mov (.t 0), none, 0, 0⟩,
      ⟨(some 11), .call 15 [(.t 10)], none, 0, 0⟩,
      ⟨(some 6), .mov (.t 11), none, 0, 0⟩] false)
    (.seq
     (.region [⟨(some 12), .mov (.t 6), none, 0, 0⟩,
       ⟨(some 13), .bin .neq (.t 12) (.c (.d (.sc (.int .i64 0)))), none, 0, 0⟩] false)
     (.cond (.t 13)
      (.seq
       (.region [⟨(some 14), .mov (.t 6), none, 0, 0⟩,
         ⟨(some 4), .mov (.c (.own [] .full)), none, 0, 0⟩,
         ⟨(some 5), .mov (.t 14), none, 0, 0⟩] false)
       .ret)
      .skip)))
   (.seq
    (.seq
     (.region [⟨(some 15), .load 1 false (.t 3), none, 0, 0⟩,
       ⟨(some 16), .len (.t 15), none, 0, 0⟩,
       ⟨(some 17), .mov (.t 0), none, 0, 0⟩,
       ⟨(some 18), .len (.t 17), none, 0, 0⟩,
       ⟨(some 19), .bin .neq (.t 16) (.t 18), none, 0, 0⟩,
       ⟨(some 20), .mov (.t 19), none, 0, 0⟩,
       ⟨(some 21), .load 1 false (.t 3), (some (20, false)), 0, 0⟩,
       ⟨(some 22), .call 48 [(.t 21), (.c (.clo 49 []))], (some (20, false)), 0, 0⟩,
       ⟨(some 23), .pick (.t 20) (.c (.d (.sc (.bool true)))) (.t 22), none, 0, 0⟩] false)
     (.cond (.t 23)
      (.seq
       (.region [⟨(some 4), .mov (.c (.own [] .full)), none, 0, 0⟩,
         ⟨(some 5), .mov (.c (.d (.sc (.int .i64 2)))), none, 0, 0⟩] false)
       .ret)
      .skip))
    (.seq
     (.region [⟨(some 24), .mov (.t 0), none, 0, 0⟩,
       ⟨(some 25), .len (.t 24), none, 1, 0⟩,
       ⟨(some 26), .makeSlice 1 8 [(.sc (.int .i64 0))] (.t 25) (.t 25), none, 3, 0⟩,
       ⟨(some 27), .mov (.t 0), none, 0, 0⟩,
       ⟨(some 28), .len (.t 27), none, 8, 0⟩,
       ⟨(some 29), .makeSlice 1 1 [(.sc (.bool false))] (.t 28) (.t 28), none, 24, 0⟩,
       ⟨(some 7), .alloc [(.own [] .full)], none, 0, 0⟩,
       ⟨(some 8), .alloc [(.own [] .full)], none, 0, 0⟩,
       ⟨(some 9), .alloc [(.d (.sc (.bool false)))], none, 0, 0⟩,
       ⟨none, .store 1 (.t 7) (.t 26), none, 455, 0⟩,
       ⟨none, .store 1 (.t 8) (.t 29), none, 1023, 0⟩,
       ⟨none, .store 1 (.t 9) (.c (.d (.sc (.bool true)))), none, 2047, 0⟩] true)
     (.seq
      (.region [⟨(some 30), .mov (.t 0), none, 0, 0⟩,
        ⟨(some 31), .makeFunc 50 [(.t 7), (.t 3), (.t 8), (.t 9)], none, 0, 0⟩,
        ⟨(some 32), .call 38 [(.t 30), (.t 31)], none, 0, 0⟩] false)
      (.seq
       (.seq
        (.region [⟨(some 33), .load 1 false (.t 9), none, 0, 0⟩,
          ⟨(some 34), .un .not (.t 33), none, 0, 0⟩,
          ⟨(some 35), .mov (.t 34), none, 0, 0⟩,
          ⟨(some 36), .load 1 false (.t 7), (some (35, false)), 0, 0⟩,
          ⟨(some 37), .load 1 false (.t 7), (some (35, false)), 0, 0⟩,
          ⟨(some 38), .len (.t 37), (some (35, false)), 0, 0⟩,
          ⟨(some 39), .bin .sub (.t 38) (.c (.d (.sc (.int .i64 1)))), (some (35, false)), 0, 0⟩,
          ⟨(some 40), .indexAddr 1 (.t 36) (.t 39), (some (35, false)), 0, 0⟩,
          ⟨(some 41), .load 1 false (.t 40), (some (35, false)), 0, 0⟩,
          ⟨(some 42), .bin .neq (.t 41) (.c (.d (.sc (.int .i64 0)))), (some (35, false)), 0, 0⟩,
          ⟨(some 43), .pick (.t 35) (.c (.d (.sc (.bool true)))) (.t 42), none, 0, 0⟩] false)
        (.cond (.t 43)
         (.seq
          (.region [⟨(some 4), .mov (.c (.own [] .full)), none, 0, 0⟩,
            ⟨(some 5), .mov (.c (.d (.sc (.int .i64 36)))), none, 0, 0⟩] false)
          .ret)
         .skip))
       (.seq
        (.region [⟨(some 44), .load 1 false (.t 7), none, 0, 0⟩,
          ⟨(some 4), .mov (.t 44), none, 0, 0⟩,
          ⟨(some 5), .mov (.c (.d (.sc (.int .i64 0)))), none, 0, 0⟩] false)
        .ret))))))), false⟩
/-- wreckage/wreckageref07.SameMasks -/
def t31 : AFn := ⟨2, 26, [.t 4],
 (.seq
  (.region [⟨(some 4), .mov (.c (.d (.sc (.bool false)))), none, 0, 0⟩] false)
  (.seq
   (.seq
    (.region [⟨(some 6), .mov (.t 0), none, 0, 0⟩,
      ⟨(some 7), .len (.t 6), none, 0, 0⟩,
      ⟨(some 8), .mov (.t 1), none, 0, 0⟩,
      ⟨(some 9), .len (.t 8), none, 0, 0⟩,
      ⟨(some 10), .bin .neq (.t 7) (.t 9), none, 0, 0⟩] false)
    (.cond (.t 10)
     (.seq
      (.region [⟨(some 4), .mov (.c (.d (.sc (.bool false)))), none, 0, 0⟩] false)
      .ret)
     .skip))
   (.seq
    (.seq
     (.region [⟨(some 5), .mov (.c (.d (.sc (.int .i64 0)))), none, 0, 0⟩] false)
     (.block 0
      (.loop
       (.seq
        (.seq
         (.region [⟨(some 11), .mov (.t 5), none, 0, 0⟩,
           ⟨(some 12), .mov (.t 0), none, 0, 0⟩,
           ⟨(some 13), .len (.t 12), none, 0, 0⟩,
           ⟨(some 14), .bin .lss (.t 11) (.t 13), none, 0, 0⟩] false)
         (.cond (.t 14)
          .skip
          (.exit 0)))
        (.seq
         (.block 1
          (.seq
           (.region [⟨(some 17), .mov (.t 0), none, 0, 0⟩,
             ⟨(some 18), .mov (.t 5), none, 0, 0⟩,
             ⟨(some 19), .indexAddr 1 (.t 17) (.t 18), none, 3, 0⟩,
             ⟨(some 20), .load 1 false (.t 19), none, 7, 0⟩,
             ⟨(some 21), .mov (.t 1), none, 0, 0⟩,
             ⟨(some 22), .mov (.t 5), none, 0, 0⟩,
             ⟨(some 23), .indexAddr 1 (.t 21) (.t 22), none, 48, 0⟩,
             ⟨(some 24), .load 1 false (.t 23), none, 112, 0⟩,
             ⟨(some 25), .bin .neq (.t 20) (.t 24), none, 255, 0⟩] true)
           (.cond (.t 25)
            (.seq
             (.region [⟨(some 4), .mov (.c (.d (.sc (.bool false)))), none, 0, 0⟩] false)
             .ret)
            .skip)))
         (.region [⟨(some 15), .mov (.t 5), none, 0, 0⟩,
           ⟨(some 16), .bin .add (.t 15) (.c (.d (.sc (.int .i64 1)))), none, 0, 0⟩,
           ⟨(some 5), .mov (.t 16), none, 0, 0⟩] false))))))
    (.seq
     (.region [⟨(some 4), .mov (.c (.d (.sc (.bool true)))), none, 0, 0⟩] false)
     .ret)))), false⟩
/-- wreckage/wreckagelaw07.end -/
def t34 : AFn := ⟨0, 2, [.cell 0 4 true],
 (.seq
  (.region [⟨(some 0), .alloc [(.d (.sc (.int .u8 0))), (.d (.sc (.int .i64 0))), (.d (.sc (.int .i64 0))), (.d (.sc (.int .i64 0)))], none, 0, 0⟩] false)
  (.seq
   (.region [⟨(some 1), .build [(.d (.sc (.int .u8 0))), (.d (.sc (.int .i64 0))), (.d (.sc (.int .i64 0))), (.d (.sc (.int .i64 0)))] [(0, 1, (.c (.d (.sc (.int .u8 34))))), (1, 1, (.c (.d (.sc (.int .i64 (-1))))))], none, 0, 0⟩,
     ⟨none, .store 4 (.t 0) (.t 1), none, 0, 0⟩] false)
   .ret)), false⟩
/-- wreckage/flow.behind -/
def t36 : AFn := ⟨2, 36, [.t 4],
 (.seq
  (.region [⟨(some 4), .mov (.c (.own [] .full)), none, 0, 0⟩] false)
  (.seq
   (.seq
    (.region [⟨(some 7), .mov (.t 0), none, 0, 0⟩,
      ⟨(some 8), .mov (.t 1), none, 0, 0⟩,
      ⟨(some 9), .indexAddr 4 (.t 7) (.t 8), none, 0, 0⟩,
      ⟨(some 10), .load 4 true (.t 9), none, 0, 0⟩,
      ⟨(some 5), .alloc [(.d (.sc (.int .u8 0))), (.d (.sc (.int .i64 0))), (.d (.sc (.int .i64 0))), (.d (.sc (.int .i64 0)))], none, 0, 0⟩,
      ⟨none, .store 4 (.t 5) (.t 10), none, 0, 0⟩] false)
    (.seq
     (.region [⟨(some 11), .fieldAddr 0 (.t 5), none, 0, 0⟩,
       ⟨(some 12), .load 1 false (.t 11), none, 0, 0⟩] false)
     (.block 0
      (.seq
       (.seq
        (.region [⟨(some 14), .bin .eql (.t 12) (.c (.d (.sc (.int .u8 34)))), none, 0, 0⟩,
          ⟨(some 13), .mov (.t 14), none, 0, 0⟩] false)
        (.cond (.t 13)
         .skip
         (.seq
          (.region [⟨(some 15), .bin .eql (.t 12) (.c (.d (.sc (.int .u8 28)))), none, 0, 0⟩,
            ⟨(some 13), .mov (.t 15), none, 0, 0⟩] false)
          (.cond (.t 13)
           .skip
           (.region [⟨(some 16), .bin .eql (.t 12) (.c (.d (.sc (.int .u8 30)))), none, 0, 0⟩,
             ⟨(some 13), .mov (.t 16), none, 0, 0⟩] false)))))
       (.cond (.t 13)
        (.seq
         (.region [⟨(some 4), .mov (.c (.own [] .full)), none, 0, 0⟩] false)
         .ret)
        (.seq
         (.region [⟨(some 18), .bin .eql (.t 12) (.c (.d (.sc (.int .u8 22)))), none, 0, 0⟩,
           ⟨(some 17), .mov (.t 18), none, 0, 0⟩] false)
         (.cond (.t 17)
          (.seq
           (.region [⟨(some 19), .fieldAddr 1 (.t 5), none, 0, 0⟩,
             ⟨(some 20), .load 1 false (.t 19), none, 0, 0⟩,
             ⟨(some 21), .buildSlice 1 1 [(.sc (.int .i64 0))] [(0, (.t 20))], none, 0, 0⟩,
             ⟨(some 4), .mov (.t 21), none, 0, 0⟩] false)
           .ret)
          (.seq
           (.region [⟨(some 23), .bin .eql (.t 12) (.c (.d (.sc (.int .u8 23)))), none, 0, 0⟩,
             ⟨(some 22), .mov (.t 23), none, 0, 0⟩] false)
           (.cond (.t 22)
            (.seq
             (.region [⟨(some 24), .mov (.t 1), none, 0, 0⟩,
               ⟨(some 25), .bin .add (.t 24) (.c (.d (.sc (.int .i64 1)))), none, 0, 0⟩,
               ⟨(some 26), .fieldAddr 2 (.t 5), none, 0, 0⟩,
               ⟨(some 27), .load 1 false (.t 26), none, 0, 0⟩,
               ⟨(some 28), .buildSlice 1 2 [(.sc (.int .i64 0))] [(0, (.t 25)), (1, (.t 27))], none, 0, 1⟩,
               ⟨(some 6), .mov (.t 28), none, 0, 0⟩] false)
             (.seq
              (.region [⟨(some 29), .mov (.t 6), none, 0, 0⟩,
                ⟨(some 30), .call 53 [(.t 29)], none, 0, 0⟩] false)
              (.seq
               (.region [⟨(some 31), .mov (.t 6), none, 0, 0⟩,
                 ⟨(some 32), .call 54 [(.t 31)], none, 0, 0⟩,
                 ⟨(some 4), .mov (.t 32), none, 0, 0⟩] false)
               .ret)))
            .skip)))))))))
   (.seq
    (.region [⟨(some 33), .mov (.t 1), none, 0, 0⟩,
      ⟨(some 34), .bin .add (.t 33) (.c (.d (.sc (.int .i64 1)))), none, 0, 0⟩,
      ⟨(some 35), .buildSlice 1 1 [(.sc (.int .i64 0))] [(0, (.t 34))], none, 0, 0⟩,
      ⟨(some 4), .mov (.t 35), none, 0, 0⟩] false)
    .ret))), false⟩
/-- wreckage/flow.spread -/
def t38 : AFn := ⟨2, 42, [],
 (.seq
  (.region [⟨(some 8), .mov (.t 1), none, 0, 0⟩,
    ⟨(some 9), .callv (.t 8) [(.c (.d (.sc (.int .i64 0)))), (.c (.d (.sc (.int .i64 (-1)))))], none, 0, 0⟩] false)
  (.seq
   (.region [⟨(some 10), .buildSlice 1 1 [(.sc (.int .i64 0))] [(0, (.c (.d (.sc (.int .i64 0)))))], none, 0, 1⟩,
     ⟨(some 4), .mov (.t 10), none, 0, 0⟩] false)
   (.block 0
    (.loop
     (.seq
      (.seq
       (.region [⟨(some 11), .mov (.t 4), none, 0, 0⟩,
         ⟨(some 12), .len (.t 11), none, 0, 0⟩,
         ⟨(some 13), .bin .gtr (.t 12) (.c (.d (.sc (.int .i64 0)))), none, 0, 0⟩] false)
       (.cond (.t 13)
        .skip
        (.exit 0)))
      (.block 1
       (.seq
        (.region [⟨(some 14), .mov (.t 4), none, 0, 0⟩,
          ⟨(some 15), .mov (.t 4), none, 0, 0⟩,
          ⟨(some 16), .len (.t 15), none, 0, 0⟩,
          ⟨(some 17), .bin .sub (.t 16) (.c (.d (.sc (.int .i64 1)))), none, 0, 0⟩,
          ⟨(some 18), .indexAddr 1 (.t 14) (.t 17), none, 0, 0⟩,
          ⟨(some 19), .load 1 false (.t 18), none, 0, 0⟩,
          ⟨(some 5), .mov (.t 19), none, 0, 0⟩] false)
        (.seq
         (.region [⟨(some 20), .mov (.t 4), none, 0, 0⟩,
           ⟨(some 21), .mov (.t 4), none, 0, 0⟩,
           ⟨(some 22), .len (.t 21), none, 0, 0⟩,
           ⟨(some 23), .bin .sub (.t 22) (.c (.d (.sc (.int .i64 1)))), none, 0, 0⟩,
           ⟨(some 24), .slice 1 (.t 20) none (some (.t 23)) none, none, 0, 0⟩,
           ⟨(some 4), .mov (.t 24), none, 0, 0⟩] false)
         (.seq
          (.region [⟨(some 25), .mov (.t 0), none, 0, 0⟩,
            ⟨(some 26), .mov (.t 5), none, 0, 0⟩,
            ⟨(some 27), .call 36 [(.t 25), (.t 26)], none, 0, 0⟩,
            ⟨(some 28), .len (.t 27), none, 0, 0⟩,
            ⟨(some 29), .mov (.c (.d (.sc (.int .i64 0)))), none, 0, 0⟩] false)
          (.block 2
           (.loop
            (.seq
             (.region [⟨(some 30), .bin .lss (.t 29) (.t 28), none, 0, 0⟩] false)
             (.seq
              (.cond (.t 30)
               .skip
               (.exit 2))
              (.seq
               (.block 3
                (.seq
                 (.region [⟨(some 31), .indexAddr 1 (.t 27) (.t 29), none, 0, 0⟩,
                   ⟨(some 32), .load 1 false (.t 31), none, 0, 0⟩,
                   ⟨(some 7), .mov (.t 32), none, 0, 0⟩] false)
                 (.seq
                  (.region [⟨(some 33), .mov (.t 1), none, 0, 0⟩,
                    ⟨(some 34), .mov (.t 7), none, 0, 0⟩,
                    ⟨(some 35), .mov (.t 5), none, 0, 0⟩,
                    ⟨(some 36), .callv (.t 33) [(.t 34), (.t 35)], none, 0, 0⟩] false)
                  (.cond (.t 36)
                   (.region [⟨(some 37), .mov (.t 4), none, 0, 0⟩,
                     ⟨(some 38), .mov (.t 7), none, 0, 0⟩,
                     ⟨(some 39), .buildSlice 1 1 [(.sc (.int .i64 0))] [(0, (.t 38))], none, 0, 0⟩,
                     ⟨(some 40), .append 1 8 (.t 37) (.t 39), none, 0, 1⟩,
                     ⟨(some 4), .mov (.t 40), none, 0, 0⟩] false)
                   .skip))))
               (.region [⟨(some 41), .bin .add (.t 29) (.c (.d (.sc (.int .i64 1)))), none, 0, 0⟩,
                 ⟨(some 29), .mov (.t 41), none, 0, 0⟩] false))))))))))))))), true⟩
/-- wreckage/flow.Reached$1 -/
def t39 : AFn := ⟨3, 16, [.t 5],
 (.seq
  (.region [⟨(some 5), .mov (.c (.d (.sc (.bool false)))), none, 0, 0⟩] false)
  (.seq
   (.region [⟨(some 7), .load 1 false (.t 2), none, 0, 0⟩,
     ⟨(some 8), .mov (.t 0), none, 0, 0⟩,
     ⟨(some 9), .indexAddr 1 (.t 7) (.t 8), none, 0, 0⟩,
     ⟨(some 10), .load 1 false (.t 9), none, 0, 0⟩,
     ⟨(some 6), .mov (.t 10), none, 0, 0⟩] false)
   (.seq
    (.region [⟨(some 11), .load 1 false (.t 2), none, 0, 0⟩,
      ⟨(some 12), .mov (.t 0), none, 0, 0⟩,
      ⟨(some 13), .indexAddr 1 (.t 11) (.t 12), none, 0, 0⟩,
      ⟨none, .store 1 (.t 13) (.c (.d (.sc (.bool true)))), none, 0, 0⟩] false)
    (.seq
     (.region [⟨(some 14), .mov (.t 6), none, 0, 0⟩,
       ⟨(some 15), .un .not (.t 14), none, 0, 0⟩,
       ⟨(some 5), .mov (.t 15), none, 0, 0⟩] false)
     .ret)))), true⟩
/-- wreckage/ops.Check -/
def t40 : AFn := ⟨1, 36, [.t 2],
 (.seq
  (.region [⟨(some 1), .box (.t 0), none, 0, 0⟩,
    ⟨(some 2), .mov (.c (.d (.sc (.int .i64 0)))), none, 0, 0⟩] false)
  (.seq
   (.region [⟨(some 8), .fieldAddr 0 (.t 1), none, 0, 0⟩,
     ⟨(some 9), .load 1 false (.t 8), none, 0, 0⟩,
     ⟨(some 10), .call 55 [(.t 9)], none, 0, 0⟩,
     ⟨(some 7), .mov (.t 10), none, 0, 0⟩,
     ⟨(some 11), .extract (.t 7) 0, none, 0, 0⟩,
     ⟨(some 12), .extract (.t 7) 1, none, 0, 0⟩,
     ⟨(some 3), .alloc [(.d (.sc (.int .i64 0))), (.d (.sc (.int .i64 0))), (.d (.sc (.bool false))), (.d (.sc (.bool false))), (.d (.sc (.int .i64 0))), (.d (.sc (.int .i64 0))), (.d (.sc (.bool false))), (.d (.sc (.bool false))), (.d (.sc (.int .i64 0))), (.d (.sc (.int .i64 0))), (.d (.sc (.bool false))), (.d (.sc (.bool false)))], none, 0, 0⟩,
     ⟨none, .store 12 (.t 3) (.t 11), none, 0, 0⟩,
     ⟨(some 4), .mov (.t 12), none, 0, 0⟩] false)
   (.seq
    (.seq
     (.region [⟨(some 13), .mov (.t 4), none, 0, 0⟩,
       ⟨(some 14), .bin .lss (.t 13) (.c (.d (.sc (.int .i64 0)))), none, 0, 0⟩] false)
     (.cond (.t 14)
      (.seq
       (.region [⟨(some 2), .mov (.c (.d (.sc (.int .i64 8)))), none, 0, 0⟩] false)
       .ret)
      .skip))
    (.seq
     (.seq
      (.region [⟨(some 15), .load 4 true (.t 1), none, 0, 0⟩,
        ⟨(some 16), .call 56 [(.t 15)], none, 0, 0⟩,
        ⟨(some 17), .mov (.c (.d (.sc (.int .i64 0)))), none, 0, 0⟩] false)
      (.block 0
       (.loop
        (.seq
         (.region [⟨(some 18), .bin .lss (.t 17) (.c (.d (.sc (.int .i64 3)))), none, 0, 0⟩] false)
         (.seq
          (.cond (.t 18)
           .skip
           (.exit 0))
          (.seq
           (.block 1
            (.seq
             (.region [⟨(some 19), .mov (.t 17), none, 0, 0⟩,
               ⟨(some 20), .indexA 3 1 false (.t 16) (.t 17), none, 0, 0⟩,
               ⟨(some 5), .mov (.t 19), none, 0, 0⟩,
               ⟨(some 6), .mov (.t 20), none, 0, 0⟩] false)
             (.seq
              (.region [⟨(some 21), .mov (.t 6), none, 0, 0⟩,
                ⟨(some 22), .mov (.t 5), none, 0, 0⟩,
                ⟨(some 23), .indexArr 3 4 (.t 3) (.t 22), none, 0, 0⟩,
                ⟨(some 24), .fieldAddr 0 (.t 23), none, 0, 0⟩,
                ⟨(some 25), .load 1 false (.t 24), none, 0, 0⟩,
                ⟨(some 26), .bin .lss (.t 21) (.t 25), none, 0, 0⟩,
                ⟨(some 27), .mov (.t 26), none, 0, 0⟩,
                ⟨(some 28), .mov (.t 6), (some (27, false)), 0, 0⟩,
                ⟨(some 29), .mov (.t 5), (some (27, false)), 0, 0⟩,
                ⟨(some 30), .indexArr 3 4 (.t 3) (.t 29), (some (27, false)), 0, 0⟩,
                ⟨(some 31), .fieldAddr 1 (.t 30), (some (27, false)), 0, 0⟩,
                ⟨(some 32), .load 1 false (.t 31), (some (27, false)), 0, 0⟩,
                ⟨(some 33), .bin .gtr (.t 28) (.t 32), (some (27, false)), 0, 0⟩,
                ⟨(some 34), .pick (.t 27) (.c (.d (.sc (.bool true)))) (.t 33), none, 0, 0⟩] false)
              (.cond (.t 34)
               (.seq
                (.region [⟨(some 2), .mov (.c (.d (.sc (.int .i64 8)))), none, 0, 0⟩] false)
                .ret)
               .skip))))
           (.region [⟨(some 35), .bin .add (.t 17) (.c (.d (.sc (.int .i64 1)))), none, 0, 0⟩,
             ⟨(some 17), .mov (.t 35), none, 0, 0⟩] false)))))))
     (.seq
      (.region [⟨(some 2), .mov (.c (.d (.sc (.int .i64 0)))), none, 0, 0⟩] false)
      .ret))))), false⟩
/-- wreckage/wreckagelaw07.given -/
def t43 : AFn := ⟨1, 10, [.t 2],
 (.seq
  (.region [⟨(some 1), .box (.t 0), none, 0, 0⟩,
    ⟨(some 2), .mov (.c (.own [] .full)), none, 0, 0⟩] false)
  (.seq
   (.region [⟨(some 3), .build [(.d (.sc (.int .u8 0))), (.d (.sc (.int .i64 0))), (.d (.sc (.int .i64 0))), (.d (.sc (.int .i64 0)))] [(0, 1, (.c (.d (.sc (.int .u8 23))))), (2, 1, (.c (.d (.sc (.int .i64 3)))))], none, 0, 0⟩,
     ⟨(some 4), .build [(.d (.sc (.int .u8 0))), (.d (.sc (.int .i64 0))), (.d (.sc (.int .i64 0))), (.d (.sc (.int .i64 0)))] [(0, 1, (.c (.d (.sc (.int .u8 1))))), (1, 1, (.c (.d (.sc (.int .i64 1))))), (2, 1, (.c (.d (.sc (.int .i64 7)))))], none, 0, 0⟩,
     ⟨(some 5), .build [(.d (.sc (.int .u8 0))), (.d (.sc (.int .i64 0))), (.d (.sc (.int .i64 0))), (.d (.sc (.int .i64 0)))] [(0, 1, (.c (.d (.sc (.int .u8 22))))), (1, 1, (.c (.d (.sc (.int .i64 4)))))], none, 0, 0⟩,
     ⟨(some 6), .load 4 true (.t 1), none, 0, 0⟩,
     ⟨(some 7), .build [(.d (.sc (.int .u8 0))), (.d (.sc (.int .i64 0))), (.d (.sc (.int .i64 0))), (.d (.sc (.int .i64 0)))] [(0, 1, (.c (.d (.sc (.int .u8 5))))), (1, 1, (.c (.d (.sc (.int .i64 2))))), (2, 1, (.c (.d (.sc (.int .i64 1)))))], none, 0, 0⟩,
     ⟨(some 8), .call 34 [], none, 0, 0⟩,
     ⟨(some 9), .buildSlice 4 6 [(.sc (.int .u8 0)), (.sc (.int .i64 0)), (.sc (.int .i64 0)), (.sc (.int .i64 0))] [(0, (.t 3)), (1, (.t 4)), (2, (.t 5)), (3, (.t 6)), (4, (.t 7)), (5, (.t 8))], none, 63, 0⟩,
     ⟨(some 2), .mov (.t 9), none, 127, 0⟩] true)
   .ret)), false⟩
/-- wreckage/ops.Slots -/
def t44 : AFn := ⟨1, 54, [.t 2, .t 3, .t 4],
 (.seq
  (.region [⟨(some 1), .box (.t 0), none, 0, 0⟩,
    ⟨(some 2), .mov (.c (.own [] .full)), none, 0, 0⟩,
    ⟨(some 3), .mov (.c (.own [] .full)), none, 0, 0⟩,
    ⟨(some 4), .mov (.c (.d (.sc (.int .i64 0)))), none, 0, 0⟩] false)
  (.seq
   (.seq
    (.region [⟨(some 10), .load 4 true (.t 1), none, 0, 0⟩,
      ⟨(some 11), .call 40 [(.t 10)], none, 0, 0⟩,
      ⟨(some 5), .mov (.t 11), none, 0, 0⟩] false)
    (.seq
     (.region [⟨(some 12), .mov (.t 5), none, 0, 0⟩,
       ⟨(some 13), .bin .neq (.t 12) (.c (.d (.sc (.int .i64 0)))), none, 0, 0⟩] false)
     (.cond (.t 13)
      (.seq
       (.region [⟨(some 14), .mov (.t 5), none, 0, 0⟩,
         ⟨(some 2), .mov (.c (.own [] .full)), none, 0, 0⟩,
         ⟨(some 3), .mov (.c (.own [] .full)), none, 0, 0⟩,
         ⟨(some 4), .mov (.t 14), none, 0, 0⟩] false)
       .ret)
      .skip)))
   (.seq
    (.region [⟨(some 16), .fieldAddr 0 (.t 1), none, 0, 0⟩,
      ⟨(some 17), .load 1 false (.t 16), none, 0, 0⟩,
      ⟨(some 18), .call 55 [(.t 17)], none, 0, 0⟩,
      ⟨(some 15), .mov (.t 18), none, 0, 0⟩,
      ⟨(some 19), .extract (.t 15) 0, none, 0, 0⟩,
      ⟨(some 20), .extract (.t 15) 1, none, 0, 0⟩,
      ⟨(some 6), .alloc [(.d (.sc (.int .i64 0))), (.d (.sc (.int .i64 0))), (.d (.sc (.bool false))), (.d (.sc (.bool false))), (.d (.sc (.int .i64 0))), (.d (.sc (.int .i64 0))), (.d (.sc (.bool false))), (.d (.sc (.bool false))), (.d (.sc (.int .i64 0))), (.d (.sc (.int .i64 0))), (.d (.sc (.bool false))), (.d (.sc (.bool false)))], none, 0, 0⟩,
      ⟨none, .store 12 (.t 6) (.t 19), none, 0, 0⟩,
      ⟨(some 7), .mov (.t 20), none, 0, 0⟩] false)
    (.seq
     (.seq
      (.region [⟨(some 21), .load 4 true (.t 1), none, 0, 0⟩,
        ⟨(some 22), .call 56 [(.t 21)], none, 0, 0⟩,
        ⟨(some 23), .mov (.c (.d (.sc (.int .i64 0)))), none, 0, 0⟩] false)
      (.block 0
       (.loop
        (.seq
         (.region [⟨(some 24), .bin .lss (.t 23) (.c (.d (.sc (.int .i64 3)))), none, 0, 0⟩] false)
         (.seq
          (.cond (.t 24)
           .skip
           (.exit 0))
          (.seq
           (.block 1
            (.seq
             (.region [⟨(some 25), .mov (.t 23), none, 0, 0⟩,
               ⟨(some 26), .indexA 3 1 false (.t 22) (.t 23), none, 0, 0⟩,
               ⟨(some 8), .mov (.t 25), none, 0, 0⟩,
               ⟨(some 9), .mov (.t 26), none, 0, 0⟩] false)
             (.seq
              (.seq
               (.region [⟨(some 27), .mov (.t 8), none, 0, 0⟩,
                 ⟨(some 28), .indexArr 3 4 (.t 6) (.t 27), none, 0, 0⟩,
                 ⟨(some 29), .fieldAddr 2 (.t 28), none, 0, 0⟩,
                 ⟨(some 30), .load 1 false (.t 29), none, 0, 0⟩,
                 ⟨(some 31), .mov (.t 30), none, 0, 0⟩,
                 ⟨(some 32), .mov (.t 9), (some (31, true)), 0, 0⟩,
                 ⟨(some 33), .bin .geq (.t 32) (.c (.d (.sc (.int .i64 0)))), (some (31, true)), 0, 0⟩,
                 ⟨(some 34), .pick (.t 31) (.t 33) (.c (.d (.sc (.bool false)))), none, 0, 0⟩] false)
               (.cond (.t 34)
                (.region [⟨(some 35), .mov (.t 2), none, 0, 0⟩,
                  ⟨(some 36), .mov (.t 9), none, 0, 0⟩,
                  ⟨(some 37), .buildSlice 1 1 [(.sc (.int .i64 0))] [(0, (.t 36))], none, 0, 0⟩,
                  ⟨(some 38), .append 1 8 (.t 35) (.t 37), none, 0, 0⟩,
                  ⟨(some 2), .mov (.t 38), none, 0, 0⟩] false)
                .skip))
              (.seq
               (.region [⟨(some 39), .mov (.t 8), none, 0, 0⟩,
                 ⟨(some 40), .indexArr 3 4 (.t 6) (.t 39), none, 0, 0⟩,
                 ⟨(some 41), .fieldAddr 3 (.t 40), none, 0, 0⟩,
                 ⟨(some 42), .load 1 false (.t 41), none, 0, 0⟩,
                 ⟨(some 43), .mov (.t 42), none, 0, 0⟩,
                 ⟨(some 44), .mov (.t 9), (some (43, true)), 0, 0⟩,
                 ⟨(some 45), .bin .geq (.t 44) (.c (.d (.sc (.int .i64 0)))), (some (43, true)), 0, 0⟩,
                 ⟨(some 46), .pick (.t 43) (.t 45) (.c (.d (.sc (.bool false)))), none, 0, 0⟩] false)
               (.cond (.t 46)
                (.region [⟨(some 47), .mov (.t 3), none, 0, 0⟩,
                  ⟨(some 48), .mov (.t 9), none, 0, 0⟩,
                  ⟨(some 49), .buildSlice 1 1 [(.sc (.int .i64 0))] [(0, (.t 48))], none, 0, 0⟩,
                  ⟨(some 50), .append 1 8 (.t 47) (.t 49), none, 0, 0⟩,
                  ⟨(some 3), .mov (.t 50), none, 0, 0⟩] false)
                .skip)))))
           (.region [⟨(some 51), .bin .add (.t 23) (.c (.d (.sc (.int .i64 1)))), none, 0, 0⟩,
             ⟨(some 23), .mov (.t 51), none, 0, 0⟩] false)))))))
     (.seq
      (.region [⟨(some 52), .mov (.t 2), none, 0, 0⟩,
        ⟨(some 53), .mov (.t 3), none, 0, 0⟩,
        ⟨(some 2), .mov (.t 52), none, 0, 0⟩,
        ⟨(some 3), .mov (.t 53), none, 0, 0⟩,
        ⟨(some 4), .mov (.c (.d (.sc (.int .i64 0)))), none, 0, 0⟩] false)
      .ret))))), false⟩
/-- wreckage/flow.mask -/
def t45 : AFn := ⟨1, 18, [.t 2],
 (.seq
  (.region [⟨(some 2), .mov (.c (.d (.sc (.int .u64 0)))), none, 0, 0⟩] false)
  (.seq
   (.region [⟨(some 3), .mov (.c (.d (.sc (.int .u64 0)))), none, 0, 0⟩] false)
   (.seq
    (.seq
     (.region [⟨(some 6), .mov (.t 0), none, 0, 0⟩,
       ⟨(some 7), .len (.t 6), none, 0, 0⟩,
       ⟨(some 8), .mov (.c (.d (.sc (.int .i64 0)))), none, 0, 0⟩] false)
     (.block 0
      (.loop
       (.seq
        (.region [⟨(some 9), .bin .lss (.t 8) (.t 7), none, 0, 0⟩] false)
        (.seq
         (.cond (.t 9)
          .skip
          (.exit 0))
         (.seq
          (.block 1
           (.seq
            (.region [⟨(some 10), .indexAddr 1 (.t 6) (.t 8), none, 0, 0⟩,
              ⟨(some 11), .load 1 false (.t 10), none, 0, 0⟩,
              ⟨(some 5), .mov (.t 11), none, 0, 0⟩] false)
            (.region [⟨(some 12), .mov (.t 3), none, 0, 0⟩,
              ⟨(some 13), .mov (.t 5), none, 0, 0⟩,
              ⟨(some 14), .bin .shl (.c (.d (.sc (.int .u64 1)))) (.t 13), none, 0, 0⟩,
              ⟨(some 15), .bin .or (.t 12) (.t 14), none, 0, 0⟩,
              ⟨(some 3), .mov (.t 15), none, 0, 0⟩] false)))
          (.region [⟨(some 16), .bin .add (.t 8) (.c (.d (.sc (.int .i64 1)))), none, 0, 0⟩,
            ⟨(some 8), .mov (.t 16), none, 0, 0⟩] false)))))))
    (.seq
     (.region [⟨(some 17), .mov (.t 3), none, 0, 0⟩,
       ⟨(some 2), .mov (.t 17), none, 0, 0⟩] false)
     .ret)))), false⟩
/-- wreckage/flow.Masks$1 -/
def t46 : AFn := ⟨6, 60, [.t 8],
 (.seq
  (.region [⟨(some 8), .mov (.c (.d (.sc (.bool false)))), none, 0, 0⟩] false)
  (.seq
   (.seq
    (.region [⟨(some 11), .mov (.t 1), none, 0, 0⟩,
      ⟨(some 12), .bin .lss (.t 11) (.c (.d (.sc (.int .i64 0)))), none, 0, 0⟩] false)
    (.cond (.t 12)
     (.seq
      (.region [⟨(some 13), .load 1 false (.t 3), none, 0, 0⟩,
        ⟨(some 14), .mov (.t 0), none, 0, 0⟩,
        ⟨(some 15), .load 1 false (.t 4), none, 0, 0⟩,
        ⟨(some 16), .mov (.t 0), none, 0, 0⟩,
        ⟨(some 17), .load 1 false (.t 2), none, 0, 0⟩,
        ⟨(some 18), .bin .shl (.c (.d (.sc (.int .u64 1)))) (.t 17), none, 16, 0⟩,
        ⟨(some 19), .bin .sub (.t 18) (.c (.d (.sc (.int .u64 1)))), none, 48, 0⟩,
        ⟨(some 20), .indexAddr 1 (.t 13) (.t 14), none, 3, 0⟩,
        ⟨none, .store 1 (.t 20) (.c (.d (.sc (.bool true)))), none, 131, 0⟩,
        ⟨(some 21), .indexAddr 1 (.t 15) (.t 16), none, 511, 0⟩,
        ⟨none, .store 1 (.t 21) (.t 19), none, 1023, 0⟩] true)
      (.seq
       (.region [⟨(some 8), .mov (.c (.d (.sc (.bool true)))), none, 0, 0⟩] false)
       .ret))
     .skip))
   (.seq
    (.region [⟨(some 22), .load 1 false (.t 4), none, 0, 0⟩,
      ⟨(some 23), .mov (.t 1), none, 0, 0⟩,
      ⟨(some 24), .indexAddr 1 (.t 22) (.t 23), none, 3, 0⟩,
      ⟨(some 25), .load 1 false (.t 24), none, 7, 0⟩,
      ⟨(some 26), .load 1 false (.t 5), none, 0, 0⟩,
      ⟨(some 27), .mov (.t 1), none, 0, 0⟩,
      ⟨(some 28), .indexAddr 1 (.t 26) (.t 27), none, 48, 0⟩,
      ⟨(some 29), .load 1 false (.t 28), none, 112, 0⟩,
      ⟨(some 30), .bin .or (.t 25) (.t 29), none, 255, 0⟩,
      ⟨(some 9), .mov (.t 30), none, 511, 0⟩] true)
    (.seq
     (.seq
      (.region [⟨(some 31), .load 1 false (.t 3), none, 0, 0⟩,
        ⟨(some 32), .mov (.t 0), none, 0, 0⟩,
        ⟨(some 33), .indexAddr 1 (.t 31) (.t 32), none, 0, 0⟩,
        ⟨(some 34), .load 1 false (.t 33), none, 0, 0⟩,
        ⟨(some 35), .un .not (.t 34), none, 0, 0⟩] false)
      (.cond (.t 35)
       (.seq
        (.region [⟨(some 36), .load 1 false (.t 3), none, 0, 0⟩,
          ⟨(some 37), .mov (.t 0), none, 0, 0⟩,
          ⟨(some 38), .load 1 false (.t 4), none, 0, 0⟩,
          ⟨(some 39), .mov (.t 0), none, 0, 0⟩,
          ⟨(some 40), .mov (.t 9), none, 0, 0⟩,
          ⟨(some 41), .indexAddr 1 (.t 36) (.t 37), none, 3, 0⟩,
          ⟨none, .store 1 (.t 41) (.c (.d (.sc (.bool true)))), none, 35, 0⟩,
          ⟨(some 42), .indexAddr 1 (.t 38) (.t 39), none, 127, 0⟩,
          ⟨none, .store 1 (.t 42) (.t 40), none, 255, 0⟩] true)
        (.seq
         (.region [⟨(some 8), .mov (.c (.d (.sc (.bool true)))), none, 0, 0⟩] false)
         .ret))
       .skip))
     (.seq
      (.region [⟨(some 43), .load 1 false (.t 4), none, 0, 0⟩,
        ⟨(some 44), .mov (.t 0), none, 0, 0⟩,
        ⟨(some 45), .indexAddr 1 (.t 43) (.t 44), none, 0, 0⟩,
        ⟨(some 46), .load 1 false (.t 45), none, 0, 0⟩,
        ⟨(some 10), .mov (.t 46), none, 0, 0⟩] false)
      (.seq
       (.region [⟨(some 47), .load 1 false (.t 4), none, 0, 0⟩,
         ⟨(some 48), .mov (.t 0), none, 0, 0⟩,
         ⟨(some 49), .indexAddr 1 (.t 47) (.t 48), none, 0, 0⟩,
         ⟨(some 50), .load 1 false (.t 49), none, 0, 0⟩,
         ⟨(some 51), .mov (.t 9), none, 0, 0⟩,
         ⟨(some 52), .bin .and (.t 50) (.t 51), none, 0, 0⟩,
         ⟨(some 53), .indexAddr 1 (.t 47) (.t 48), none, 0, 0⟩,
         ⟨none, .store 1 (.t 53) (.t 52), none, 0, 0⟩] false)
       (.seq
        (.region [⟨(some 54), .load 1 false (.t 4), none, 0, 0⟩,
          ⟨(some 55), .mov (.t 0), none, 0, 0⟩,
          ⟨(some 56), .indexAddr 1 (.t 54) (.t 55), none, 0, 0⟩,
          ⟨(some 57), .load 1 false (.t 56), none, 0, 0⟩,
          ⟨(some 58), .mov (.t 10), none, 0, 0⟩,
          ⟨(some 59), .bin .neq (.t 57) (.t 58), none, 0, 0⟩,
          ⟨(some 8), .mov (.t 59), none, 0, 0⟩] false)
        .ret))))))), true⟩
/-- slices.ContainsFunc[[]int,int] -/
def t48 : AFn := ⟨2, 9, [.t 4],
 (.seq
  (.region [⟨(some 4), .mov (.c (.d (.sc (.bool false)))), none, 0, 0⟩] false)
  (.seq
   (.region [⟨(some 5), .mov (.t 0), none, 0, 0⟩,
     ⟨(some 6), .mov (.t 1), none, 0, 0⟩,
     ⟨(some 7), .call 60 [(.t 5), (.t 6)], none, 0, 0⟩,
     ⟨(some 8), .bin .geq (.t 7) (.c (.d (.sc (.int .i64 0)))), none, 0, 0⟩,
     ⟨(some 4), .mov (.t 8), none, 0, 0⟩] false)
   .ret)), true⟩
/-- wreckage/flow.Depths$1 -/
def t49 : AFn := ⟨1, 9, [.t 2],
 (.seq
  (.region [⟨(some 2), .mov (.c (.d (.sc (.bool false)))), none, 0, 0⟩] false)
  (.seq
   (.region [⟨(some 3), .mov (.t 0), none, 0, 0⟩,
     ⟨(some 4), .bin .lss (.t 3) (.c (.d (.sc (.int .i64 (-4096))))), none, 0, 0⟩,
     ⟨(some 5), .mov (.t 4), none, 0, 0⟩,
     ⟨(some 6), .mov (.t 0), (some (5, false)), 0, 0⟩,
     ⟨(some 7), .bin .gtr (.t 6) (.c (.d (.sc (.int .i64 4096)))), (some (5, false)), 0, 0⟩,
     ⟨(some 8), .pick (.t 5) (.c (.d (.sc (.bool true)))) (.t 7), none, 0, 0⟩,
     ⟨(some 2), .mov (.t 8), none, 0, 0⟩] false)
   .ret)), false⟩
/-- wreckage/flow.Depths$2 -/
def t50 : AFn := ⟨6, 56, [.t 8],
 (.seq
  (.region [⟨(some 8), .mov (.c (.d (.sc (.bool false)))), none, 0, 0⟩] false)
  (.seq
   (.region [⟨(some 9), .mov (.c (.d (.sc (.int .i64 0)))), none, 0, 0⟩] false)
   (.seq
    (.seq
     (.region [⟨(some 10), .mov (.t 1), none, 0, 0⟩,
       ⟨(some 11), .bin .geq (.t 10) (.c (.d (.sc (.int .i64 0)))), none, 0, 0⟩] false)
     (.cond (.t 11)
      (.region [⟨(some 12), .load 1 false (.t 2), none, 0, 0⟩,
        ⟨(some 13), .mov (.t 1), none, 0, 0⟩,
        ⟨(some 14), .indexAddr 1 (.t 12) (.t 13), none, 3, 0⟩,
        ⟨(some 15), .load 1 false (.t 14), none, 7, 0⟩,
        ⟨(some 16), .load 1 false (.t 3), none, 0, 0⟩,
        ⟨(some 17), .mov (.t 1), none, 0, 0⟩,
        ⟨(some 18), .indexAddr 1 (.t 16) (.t 17), none, 48, 0⟩,
        ⟨(some 19), .load 1 false (.t 18), none, 112, 0⟩,
        ⟨(some 20), .bin .add (.t 15) (.t 19), none, 255, 0⟩,
        ⟨(some 9), .mov (.t 20), none, 511, 0⟩] true)
      .skip))
    (.seq
     (.seq
      (.region [⟨(some 21), .mov (.t 9), none, 0, 0⟩,
        ⟨(some 22), .bin .lss (.t 21) (.c (.d (.sc (.int .i64 0)))), none, 0, 0⟩,
        ⟨(some 23), .mov (.t 22), none, 0, 0⟩,
        ⟨(some 24), .mov (.t 9), (some (23, false)), 0, 0⟩,
        ⟨(some 25), .bin .gtr (.t 24) (.c (.d (.sc (.int .i64 4096)))), (some (23, false)), 0, 0⟩,
        ⟨(some 26), .pick (.t 23) (.c (.d (.sc (.bool true)))) (.t 25), none, 0, 0⟩,
        ⟨(some 27), .mov (.t 26), none, 0, 0⟩,
        ⟨(some 28), .load 1 false (.t 4), (some (27, false)), 0, 0⟩,
        ⟨(some 29), .mov (.t 0), (some (27, false)), 0, 0⟩,
        ⟨(some 30), .indexAddr 1 (.t 28) (.t 29), (some (27, false)), 0, 0⟩,
        ⟨(some 31), .load 1 false (.t 30), (some (27, false)), 0, 0⟩,
        ⟨(some 32), .mov (.t 31), (some (27, false)), 0, 0⟩,
        ⟨(some 33), .load 1 false (.t 2), (some (32, true)), 0, 0⟩,
        ⟨(some 34), .mov (.t 0), (some (32, true)), 0, 0⟩,
        ⟨(some 35), .indexAddr 1 (.t 33) (.t 34), (some (32, true)), 0, 0⟩,
        ⟨(some 36), .load 1 false (.t 35), (some (32, true)), 0, 0⟩,
        ⟨(some 37), .mov (.t 9), (some (32, true)), 0, 0⟩,
        ⟨(some 38), .bin .neq (.t 36) (.t 37), (some (32, true)), 0, 0⟩,
        ⟨(some 39), .pick (.t 32) (.t 38) (.c (.d (.sc (.bool false)))), (some (27, false)), 0, 0⟩,
        ⟨(some 40), .pick (.t 27) (.c (.d (.sc (.bool true)))) (.t 39), none, 0, 0⟩] false)
      (.cond (.t 40)
       (.region [⟨none, .store 1 (.t 5) (.c (.d (.sc (.bool false)))), none, 0, 0⟩] false)
       .skip))
     (.seq
      (.seq
       (.region [⟨(some 41), .load 1 false (.t 4), none, 0, 0⟩,
         ⟨(some 42), .mov (.t 0), none, 0, 0⟩,
         ⟨(some 43), .indexAddr 1 (.t 41) (.t 42), none, 0, 0⟩,
         ⟨(some 44), .load 1 false (.t 43), none, 0, 0⟩,
         ⟨(some 45), .mov (.t 44), none, 0, 0⟩,
         ⟨(some 46), .load 1 false (.t 5), (some (45, false)), 0, 0⟩,
         ⟨(some 47), .un .not (.t 46), (some (45, false)), 0, 0⟩,
         ⟨(some 48), .pick (.t 45) (.c (.d (.sc (.bool true)))) (.t 47), none, 0, 0⟩] false)
       (.cond (.t 48)
        (.seq
         (.region [⟨(some 8), .mov (.c (.d (.sc (.bool false)))), none, 0, 0⟩] false)
         .ret)
        .skip))
      (.seq
       (.region [⟨(some 49), .load 1 false (.t 4), none, 0, 0⟩,
         ⟨(some 50), .mov (.t 0), none, 0, 0⟩,
         ⟨(some 51), .load 1 false (.t 2), none, 0, 0⟩,
         ⟨(some 52), .mov (.t 0), none, 0, 0⟩,
         ⟨(some 53), .mov (.t 9), none, 0, 0⟩,
         ⟨(some 54), .indexAddr 1 (.t 49) (.t 50), none, 3, 0⟩,
         ⟨none, .store 1 (.t 54) (.c (.d (.sc (.bool true)))), none, 35, 0⟩,
         ⟨(some 55), .indexAddr 1 (.t 51) (.t 52), none, 127, 0⟩,
         ⟨none, .store 1 (.t 55) (.t 53), none, 255, 0⟩] true)
       (.seq
        (.region [⟨(some 8), .mov (.c (.d (.sc (.bool true)))), none, 0, 0⟩] false)
        .ret))))))), true⟩
/-- slices.Sort[[]int,int] -/
def t53 : AFn := ⟨1, 11, [],
 (.seq
  (.region [⟨(some 3), .mov (.t 0), none, 0, 0⟩,
    ⟨(some 4), .len (.t 3), none, 0, 0⟩,
    ⟨(some 2), .mov (.t 4), none, 0, 0⟩] false)
  (.region [⟨(some 5), .mov (.t 0), none, 0, 0⟩,
    ⟨(some 6), .mov (.t 2), none, 0, 0⟩,
    ⟨(some 7), .mov (.t 2), none, 0, 0⟩,
    ⟨(some 8), .conv .u64 (.t 7), none, 0, 0⟩,
    ⟨(some 9), .call 62 [(.t 8)], none, 0, 0⟩,
    ⟨(some 10), .call 61 [(.t 5), (.c (.d (.sc (.int .i64 0)))), (.t 6), (.t 9)], none, 0, 0⟩] false)), true⟩
/-- slices.Compact[[]int,int] -/
def t54 : AFn := ⟨1, 61, [.t 2],
 (.seq
  (.region [⟨(some 2), .mov (.c (.own [] .full)), none, 0, 0⟩] false)
  (.seq
   (.seq
    (.region [⟨(some 6), .mov (.t 0), none, 0, 0⟩,
      ⟨(some 7), .len (.t 6), none, 0, 0⟩,
      ⟨(some 8), .bin .lss (.t 7) (.c (.d (.sc (.int .i64 2)))), none, 0, 0⟩] false)
    (.cond (.t 8)
     (.seq
      (.region [⟨(some 9), .mov (.t 0), none, 0, 0⟩,
        ⟨(some 2), .mov (.t 9), none, 0, 0⟩] false)
      .ret)
     .skip))
   (.seq
    (.seq
     (.region [⟨(some 3), .mov (.c (.d (.sc (.int .i64 1)))), none, 0, 0⟩] false)
     (.block 0
      (.loop
       (.seq
        (.seq
         (.region [⟨(some 10), .mov (.t 3), none, 0, 0⟩,
           ⟨(some 11), .mov (.t 0), none, 0, 0⟩,
           ⟨(some 12), .len (.t 11), none, 0, 0⟩,
           ⟨(some 13), .bin .lss (.t 10) (.t 12), none, 0, 0⟩] false)
         (.cond (.t 13)
          .skip
          (.exit 0)))
        (.seq
         (.block 1
          (.seq
           (.region [⟨(some 16), .mov (.t 0), none, 0, 0⟩,
             ⟨(some 17), .mov (.t 3), none, 0, 0⟩,
             ⟨(some 18), .indexAddr 1 (.t 16) (.t 17), none, 3, 0⟩,
             ⟨(some 19), .load 1 false (.t 18), none, 7, 0⟩,
             ⟨(some 20), .mov (.t 0), none, 0, 0⟩,
             ⟨(some 21), .mov (.t 3), none, 0, 0⟩,
             ⟨(some 22), .bin .sub (.t 21) (.c (.d (.sc (.int .i64 1)))), none, 32, 0⟩,
             ⟨(some 23), .indexAddr 1 (.t 20) (.t 22), none, 112, 0⟩,
             ⟨(some 24), .load 1 false (.t 23), none, 240, 0⟩,
             ⟨(some 25), .bin .eql (.t 19) (.t 24), none, 511, 0⟩] true)
           (.cond (.t 25)
            (.seq
             (.region [⟨(some 26), .mov (.t 0), none, 0, 0⟩,
               ⟨(some 27), .mov (.t 3), none, 0, 0⟩,
               ⟨(some 28), .slice 1 (.t 26) (some (.t 27)) none none, none, 0, 0⟩,
               ⟨(some 4), .mov (.t 28), none, 0, 0⟩] false)
             (.seq
              (.seq
               (.region [⟨(some 5), .mov (.c (.d (.sc (.int .i64 1)))), none, 0, 0⟩] false)
               (.block 2
                (.loop
                 (.seq
                  (.seq
                   (.region [⟨(some 29), .mov (.t 5), none, 0, 0⟩,
                     ⟨(some 30), .mov (.t 4), none, 0, 0⟩,
                     ⟨(some 31), .len (.t 30), none, 0, 0⟩,
                     ⟨(some 32), .bin .lss (.t 29) (.t 31), none, 0, 0⟩] false)
                   (.cond (.t 32)
                    .skip
                    (.exit 2)))
                  (.seq
                   (.block 3
                    (.seq
                     (.region [⟨(some 35), .mov (.t 4), none, 0, 0⟩,
                       ⟨(some 36), .mov (.t 5), none, 0, 0⟩,
                       ⟨(some 37), .indexAddr 1 (.t 35) (.t 36), none, 3, 0⟩,
                       ⟨(some 38), .load 1 false (.t 37), none, 7, 0⟩,
                       ⟨(some 39), .mov (.t 4), none, 0, 0⟩,
                       ⟨(some 40), .mov (.t 5), none, 0, 0⟩,
                       ⟨(some 41), .bin .sub (.t 40) (.c (.d (.sc (.int .i64 1)))), none, 32, 0⟩,
                       ⟨(some 42), .indexAddr 1 (.t 39) (.t 41), none, 112, 0⟩,
                       ⟨(some 43), .load 1 false (.t 42), none, 240, 0⟩,
                       ⟨(some 44), .bin .neq (.t 38) (.t 43), none, 511, 0⟩] true)
                     (.cond (.t 44)
                      (.seq
                       (.region [⟨(some 45), .mov (.t 0), none, 0, 0⟩,
                         ⟨(some 46), .mov (.t 3), none, 0, 0⟩,
                         ⟨(some 47), .mov (.t 4), none, 0, 0⟩,
                         ⟨(some 48), .mov (.t 5), none, 0, 0⟩,
                         ⟨(some 49), .indexAddr 1 (.t 47) (.t 48), none, 0, 0⟩,
                         ⟨(some 50), .load 1 false (.t 49), none, 0, 0⟩,
                         ⟨(some 51), .indexAddr 1 (.t 45) (.t 46), none, 0, 0⟩,
                         ⟨none, .store 1 (.t 51) (.t 50), none, 0, 0⟩] false)
                       (.region [⟨(some 52), .mov (.t 3), none, 0, 0⟩,
                         ⟨(some 53), .bin .add (.t 52) (.c (.d (.sc (.int .i64 1)))), none, 0, 0⟩,
                         ⟨(some 3), .mov (.t 53), none, 0, 0⟩] false))
                      .skip)))
                   (.region [⟨(some 33), .mov (.t 5), none, 0, 0⟩,
                     ⟨(some 34), .bin .add (.t 33) (.c (.d (.sc (.int .i64 1)))), none, 0, 0⟩,
                     ⟨(some 5), .mov (.t 34), none, 0, 0⟩] false))))))
              (.seq
               (.region [⟨(some 54), .mov (.t 0), none, 0, 0⟩,
                 ⟨(some 55), .mov (.t 3), none, 0, 0⟩,
                 ⟨(some 56), .slice 1 (.t 54) (some (.t 55)) none none, none, 0, 0⟩,
                 ⟨none, .clear 1 [(.sc (.int .i64 0))] (.t 56), none, 0, 0⟩] false)
               (.seq
                (.region [⟨(some 57), .mov (.t 0), none, 0, 0⟩,
                  ⟨(some 58), .mov (.t 3), none, 0, 0⟩,
                  ⟨(some 59), .slice 1 (.t 57) none (some (.t 58)) none, none, 0, 0⟩,
                  ⟨(some 2), .mov (.t 59), none, 0, 0⟩] false)
                .ret))))
            .skip)))
         (.region [⟨(some 14), .mov (.t 3), none, 0, 0⟩,
           ⟨(some 15), .bin .add (.t 14) (.c (.d (.sc (.int .i64 1)))), none, 0, 0⟩,
           ⟨(some 3), .mov (.t 15), none, 0, 0⟩] false))))))
    (.seq
     (.region [⟨(some 60), .mov (.t 0), none, 0, 0⟩,
       ⟨(some 2), .mov (.t 60), none, 0, 0⟩] false)
     .ret)))), true⟩
/-- wreckage/ops.shape -/
def t55 : AFn := ⟨1, 147, [.cell 2 12 true, .cell 3 1 false],
 (.seq
  (.region [⟨(some 2), .alloc [(.d (.sc (.int .i64 0))), (.d (.sc (.int .i64 0))), (.d (.sc (.bool false))), (.d (.sc (.bool false))), (.d (.sc (.int .i64 0))), (.d (.sc (.int .i64 0))), (.d (.sc (.bool false))), (.d (.sc (.bool false))), (.d (.sc (.int .i64 0))), (.d (.sc (.int .i64 0))), (.d (.sc (.bool false))), (.d (.sc (.bool false)))], none, 0, 0⟩,
    ⟨(some 3), .alloc [(.d (.sc (.int .i64 0)))], none, 0, 0⟩] false)
  (.seq
   (.region [⟨(some 5), .makeFunc 63 [(.t 2), (.t 3)], none, 0, 0⟩,
     ⟨(some 4), .mov (.t 5), none, 0, 0⟩] false)
   (.seq
    (.seq
     (.region [⟨(some 6), .mov (.t 0), none, 0, 0⟩] false)
     (.block 0
      (.seq
       (.block 19
        (.seq
         (.block 18
          (.seq
           (.block 17
            (.seq
             (.block 16
              (.seq
               (.block 15
                (.seq
                 (.block 14
                  (.seq
                   (.block 13
                    (.seq
                     (.block 12
                      (.seq
                       (.block 11
                        (.seq
                         (.block 10
                          (.seq
                           (.block 9
                            (.seq
                             (.block 8
                              (.seq
                               (.block 7
                                (.seq
                                 (.block 6
                                  (.seq
                                   (.block 5
                                    (.seq
                                     (.block 4
                                      (.seq
                                       (.block 3
                                        (.seq
                                         (.block 2
                                          (.seq
                                           (.block 1
                                            (.seq
                                             (.seq
                                              (.seq
                                               (.seq
                                                (.region [⟨(some 8), .bin .eql (.t 6) (.c (.d (.sc (.int .u8 30)))), none, 0, 0⟩,
                                                  ⟨(some 7), .mov (.t 8), none, 0, 0⟩] false)
                                                (.cond (.t 7)
                                                 .skip
                                                 (.region [⟨(some 9), .bin .eql (.t 6) (.c (.d (.sc (.int .u8 31)))), none, 0, 0⟩,
                                                   ⟨(some 7), .mov (.t 9), none, 0, 0⟩] false)))
                                               (.cond (.t 7)
                                                (.exit 1)
                                                .skip))
                                              (.seq
                                               (.seq
                                                (.region [⟨(some 11), .bin .eql (.t 6) (.c (.d (.sc (.int .u8 1)))), none, 0, 0⟩,
                                                  ⟨(some 10), .mov (.t 11), none, 0, 0⟩] false)
                                                (.cond (.t 10)
                                                 (.exit 2)
                                                 .skip))
                                               (.seq
                                                (.seq
                                                 (.region [⟨(some 13), .bin .eql (.t 6) (.c (.d (.sc (.int .u8 2)))), none, 0, 0⟩,
                                                   ⟨(some 12), .mov (.t 13), none, 0, 0⟩] false)
                                                 (.cond (.t 12)
                                                  (.exit 3)
                                                  .skip))
                                                (.seq
                                                 (.seq
                                                  (.region [⟨(some 15), .bin .eql (.t 6) (.c (.d (.sc (.int .u8 3)))), none, 0, 0⟩,
                                                    ⟨(some 14), .mov (.t 15), none, 0, 0⟩] false)
                                                  (.cond (.t 14)
                                                   (.exit 4)
                                                   .skip))
                                                 (.seq
                                                  (.seq
                                                   (.seq
                                                    (.region [⟨(some 17), .bin .eql (.t 6) (.c (.d (.sc (.int .u8 4)))), none, 0, 0⟩,
                                                      ⟨(some 16), .mov (.t 17), none, 0, 0⟩] false)
                                                    (.cond (.t 16)
                                                     .skip
                                                     (.region [⟨(some 18), .bin .eql (.t 6) (.c (.d (.sc (.int .u8 15)))), none, 0, 0⟩,
                                                       ⟨(some 16), .mov (.t 18), none, 0, 0⟩] false)))
                                                   (.cond (.t 16)
                                                    (.exit 5)
                                                    .skip))
                                                  (.seq
                                                   (.seq
                                                    (.seq
                                                     (.region [⟨(some 20), .bin .eql (.t 6) (.c (.d (.sc (.int .u8 6)))), none, 0, 0⟩,
                                                       ⟨(some 19), .mov (.t 20), none, 0, 0⟩] false)
                                                     (.cond (.t 19)
                                                      .skip
                                                      (.seq
                                                       (.region [⟨(some 21), .bin .eql (.t 6) (.c (.d (.sc (.int .u8 7)))), none, 0, 0⟩,
                                                         ⟨(some 19), .mov (.t 21), none, 0, 0⟩] false)
                                                       (.cond (.t 19)
                                                        .skip
                                                        (.seq
                                                         (.region [⟨(some 22), .bin .eql (.t 6) (.c (.d (.sc (.int .u8 8)))), none, 0, 0⟩,
                                                           ⟨(some 19), .mov (.t 22), none, 0, 0⟩] false)
                                                         (.cond (.t 19)
                                                          .skip
                                                          (.seq
                                                           (.region [⟨(some 23), .bin .eql (.t 6) (.c (.d (.sc (.int .u8 9)))), none, 0, 0⟩,
                                                             ⟨(some 19), .mov (.t 23), none, 0, 0⟩] false)
                                                           (.cond (.t 19)
                                                            .skip
                                                            (.seq
                                                             (.region [⟨(some 24), .bin .eql (.t 6) (.c (.d (.sc (.int .u8 10)))), none, 0, 0⟩,
                                                               ⟨(some 19), .mov (.t 24), none, 0, 0⟩] false)
                                                             (.cond (.t 19)
                                                              .skip
                                                              (.seq
                                                               (.region [⟨(some 25), .bin .eql (.t 6) (.c (.d (.sc (.int .u8 11)))), none, 0, 0⟩,
                                                                 ⟨(some 19), .mov (.t 25), none, 0, 0⟩] false)
                                                               (.cond (.t 19)
                                                                .skip
                                                                (.region [⟨(some 26), .bin .eql (.t 6) (.c (.d (.sc (.int .u8 19)))), none, 0, 0⟩,
                                                                  ⟨(some 19), .mov (.t 26), none, 0, 0⟩] false)))))))))))))
                                                    (.cond (.t 19)
                                                     (.exit 6)
                                                     .skip))
                                                   (.seq
                                                    (.seq
                                                     (.seq
                                                      (.region [⟨(some 28), .bin .eql (.t 6) (.c (.d (.sc (.int .u8 5)))), none, 0, 0⟩,
                                                        ⟨(some 27), .mov (.t 28), none, 0, 0⟩] false)
                                                      (.cond (.t 27)
                                                       .skip
                                                       (.seq
                                                        (.region [⟨(some 29), .bin .eql (.t 6) (.c (.d (.sc (.int .u8 12)))), none, 0, 0⟩,
                                                          ⟨(some 27), .mov (.t 29), none, 0, 0⟩] false)
                                                        (.cond (.t 27)
                                                         .skip
                                                         (.seq
                                                          (.region [⟨(some 30), .bin .eql (.t 6) (.c (.d (.sc (.int .u8 16)))), none, 0, 0⟩,
                                                            ⟨(some 27), .mov (.t 30), none, 0, 0⟩] false)
                                                          (.cond (.t 27)
                                                           .skip
                                                           (.seq
                                                            (.region [⟨(some 31), .bin .eql (.t 6) (.c (.d (.sc (.int .u8 18)))), none, 0, 0⟩,
                                                              ⟨(some 27), .mov (.t 31), none, 0, 0⟩] false)
                                                            (.cond (.t 27)
                                                             .skip
                                                             (.seq
                                                              (.region [⟨(some 32), .bin .eql (.t 6) (.c (.d (.sc (.int .u8 21)))), none, 0, 0⟩,
                                                                ⟨(some 27), .mov (.t 32), none, 0, 0⟩] false)
                                                              (.cond (.t 27)
                                                               .skip
                                                               (.region [⟨(some 33), .bin .eql (.t 6) (.c (.d (.sc (.int .u8 33)))), none, 0, 0⟩,
                                                                 ⟨(some 27), .mov (.t 33), none, 0, 0⟩] false)))))))))))
                                                     (.cond (.t 27)
                                                      (.exit 7)
                                                      .skip))
                                                    (.seq
                                                     (.seq
                                                      (.region [⟨(some 35), .bin .eql (.t 6) (.c (.d (.sc (.int .u8 13)))), none, 0, 0⟩,
                                                        ⟨(some 34), .mov (.t 35), none, 0, 0⟩] false)
                                                      (.cond (.t 34)
                                                       (.exit 8)
                                                       .skip))
                                                     (.seq
                                                      (.seq
                                                       (.region [⟨(some 37), .bin .eql (.t 6) (.c (.d (.sc (.int .u8 14)))), none, 0, 0⟩,
                                                         ⟨(some 36), .mov (.t 37), none, 0, 0⟩] false)
                                                       (.cond (.t 36)
                                                        (.exit 9)
                                                        .skip))
                                                      (.seq
                                                       (.seq
                                                        (.region [⟨(some 39), .bin .eql (.t 6) (.c (.d (.sc (.int .u8 20)))), none, 0, 0⟩,
                                                          ⟨(some 38), .mov (.t 39), none, 0, 0⟩] false)
                                                        (.cond (.t 38)
                                                         (.exit 10)
                                                         .skip))
                                                       (.seq
                                                        (.seq
                                                         (.region [⟨(some 41), .bin .eql (.t 6) (.c (.d (.sc (.int .u8 17)))), none, 0, 0⟩,
                                                           ⟨(some 40), .mov (.t 41), none, 0, 0⟩] false)
                                                         (.cond (.t 40)
                                                          (.exit 11)
                                                          .skip))
                                                        (.seq
                                                         (.seq
                                                          (.region [⟨(some 43), .bin .eql (.t 6) (.c (.d (.sc (.int .u8 22)))), none, 0, 0⟩,
                                                            ⟨(some 42), .mov (.t 43), none, 0, 0⟩] false)
                                                          (.cond (.t 42)
                                                           (.exit 12)
                                                           .skip))
                                                         (.seq
                                                          (.seq
                                                           (.region [⟨(some 45), .bin .eql (.t 6) (.c (.d (.sc (.int .u8 23)))), none, 0, 0⟩,
                                                             ⟨(some 44), .mov (.t 45), none, 0, 0⟩] false)
                                                           (.cond (.t 44)
                                                            (.exit 13)
                                                            .skip))
                                                          (.seq
                                                           (.seq
                                                            (.seq
                                                             (.region [⟨(some 47), .bin .eql (.t 6) (.c (.d (.sc (.int .u8 24)))), none, 0, 0⟩,
                                                               ⟨(some 46), .mov (.t 47), none, 0, 0⟩] false)
                                                             (.cond (.t 46)
                                                              .skip
                                                              (.seq
                                                               (.region [⟨(some 48), .bin .eql (.t 6) (.c (.d (.sc (.int .u8 28)))), none, 0, 0⟩,
                                                                 ⟨(some 46), .mov (.t 48), none, 0, 0⟩] false)
                                                               (.cond (.t 46)
                                                                .skip
                                                                (.region [⟨(some 49), .bin .eql (.t 6) (.c (.d (.sc (.int .u8 32)))), none, 0, 0⟩,
                                                                  ⟨(some 46), .mov (.t 49), none, 0, 0⟩] false)))))
                                                            (.cond (.t 46)
                                                             (.exit 14)
                                                             .skip))
                                                           (.seq
                                                            (.seq
                                                             (.region [⟨(some 51), .bin .eql (.t 6) (.c (.d (.sc (.int .u8 25)))), none, 0, 0⟩,
                                                               ⟨(some 50), .mov (.t 51), none, 0, 0⟩] false)
                                                             (.cond (.t 50)
                                                              (.exit 15)
                                                              .skip))
                                                            (.seq
                                                             (.seq
                                                              (.seq
                                                               (.region [⟨(some 53), .bin .eql (.t 6) (.c (.d (.sc (.int .u8 26)))), none, 0, 0⟩,
                                                                 ⟨(some 52), .mov (.t 53), none, 0, 0⟩] false)
                                                               (.cond (.t 52)
                                                                .skip
                                                                (.region [⟨(some 54), .bin .eql (.t 6) (.c (.d (.sc (.int .u8 27)))), none, 0, 0⟩,
                                                                  ⟨(some 52), .mov (.t 54), none, 0, 0⟩] false)))
                                                              (.cond (.t 52)
                                                               (.exit 16)
                                                               .skip))
                                                             (.seq
                                                              (.seq
                                                               (.region [⟨(some 56), .bin .eql (.t 6) (.c (.d (.sc (.int .u8 29)))), none, 0, 0⟩,
                                                                 ⟨(some 55), .mov (.t 56), none, 0, 0⟩] false)
                                                               (.cond (.t 55)
                                                                (.exit 17)
                                                                .skip))
                                                              (.seq
                                                               (.region [⟨(some 58), .bin .eql (.t 6) (.c (.d (.sc (.int .u8 34)))), none, 0, 0⟩,
                                                                 ⟨(some 57), .mov (.t 58), none, 0, 0⟩] false)
                                                               (.cond (.t 57)
                                                                (.exit 18)
                                                                .skip)))))))))))))))))))
                                             (.exit 19)))
                                           (.exit 0)))
                                         (.seq
                                          (.region [⟨(some 59), .mov (.t 4), none, 0, 0⟩,
                                            ⟨(some 60), .call 64 [], none, 0, 0⟩,
                                            ⟨(some 61), .call 65 [], none, 0, 0⟩,
                                            ⟨(some 62), .buildSlice 4 2 [(.sc (.int .i64 0)), (.sc (.int .i64 0)), (.sc (.bool false)), (.sc (.bool false))] [(0, (.t 60)), (1, (.t 61))], none, 0, 0⟩,
                                            ⟨(some 63), .callv (.t 59) [(.t 62)], none, 0, 0⟩] false)
                                          (.exit 0))))
                                       (.seq
                                        (.region [⟨(some 64), .mov (.t 4), none, 0, 0⟩,
                                          ⟨(some 65), .call 64 [], none, 0, 0⟩,
                                          ⟨(some 66), .call 66 [(.c (.d (.sc (.int .i64 32))))], none, 0, 0⟩,
                                          ⟨(some 67), .buildSlice 4 2 [(.sc (.int .i64 0)), (.sc (.int .i64 0)), (.sc (.bool false)), (.sc (.bool false))] [(0, (.t 65)), (1, (.t 66))], none, 0, 0⟩,
                                          ⟨(some 68), .callv (.t 64) [(.t 67)], none, 0, 0⟩] false)
                                        (.exit 0))))
                                     (.seq
                                      (.region [⟨(some 69), .mov (.t 4), none, 0, 0⟩,
                                        ⟨(some 70), .call 64 [], none, 0, 0⟩,
                                        ⟨(some 71), .call 66 [(.c (.d (.sc (.int .i64 2))))], none, 0, 0⟩,
                                        ⟨(some 72), .buildSlice 4 2 [(.sc (.int .i64 0)), (.sc (.int .i64 0)), (.sc (.bool false)), (.sc (.bool false))] [(0, (.t 70)), (1, (.t 71))], none, 0, 0⟩,
                                        ⟨(some 73), .callv (.t 69) [(.t 72)], none, 0, 0⟩] false)
                                      (.exit 0))))
                                   (.seq
                                    (.region [⟨(some 74), .mov (.t 4), none, 0, 0⟩,
                                      ⟨(some 75), .call 64 [], none, 0, 0⟩,
                                      ⟨(some 76), .buildSlice 4 1 [(.sc (.int .i64 0)), (.sc (.int .i64 0)), (.sc (.bool false)), (.sc (.bool false))] [(0, (.t 75))], none, 0, 0⟩,
                                      ⟨(some 77), .callv (.t 74) [(.t 76)], none, 0, 0⟩] false)
                                    (.exit 0))))
                                 (.region [⟨(some 78), .call 67 [], none, 0, 0⟩,
                                   ⟨(some 79), .indexArr 3 4 (.t 2) (.c (.d (.sc (.int .i64 2)))), none, 0, 0⟩,
                                   ⟨none, .store 4 (.t 79) (.t 78), none, 0, 0⟩] false)))
                               (.seq
                                (.seq
                                 (.region [⟨(some 80), .call 64 [], none, 0, 0⟩,
                                   ⟨(some 81), .call 67 [], none, 0, 0⟩,
                                   ⟨(some 82), .indexArr 3 4 (.t 2) (.c (.d (.sc (.int .i64 0)))), none, 0, 0⟩,
                                   ⟨none, .store 4 (.t 82) (.t 80), none, 0, 0⟩,
                                   ⟨(some 83), .indexArr 3 4 (.t 2) (.c (.d (.sc (.int .i64 1)))), none, 0, 0⟩,
                                   ⟨none, .store 4 (.t 83) (.t 81), none, 0, 0⟩,
                                   ⟨none, .store 1 (.t 3) (.c (.d (.sc (.int .i64 2)))), none, 0, 0⟩] false)
                                 (.seq
                                  (.region [⟨(some 84), .indexArr 3 4 (.t 2) (.c (.d (.sc (.int .i64 2)))), none, 0, 0⟩,
                                    ⟨(some 85), .fieldAddr 2 (.t 84), none, 0, 0⟩,
                                    ⟨(some 86), .load 1 false (.t 85), none, 0, 0⟩] false)
                                  (.cond (.t 86)
                                   (.region [⟨none, .store 1 (.t 3) (.c (.d (.sc (.int .i64 3)))), none, 0, 0⟩] false)
                                   .skip)))
                                (.exit 0))))
                             (.seq
                              (.region [⟨(some 87), .mov (.t 4), none, 0, 0⟩,
                                ⟨(some 88), .call 64 [], none, 0, 0⟩,
                                ⟨(some 89), .call 67 [], none, 0, 0⟩,
                                ⟨(some 90), .call 66 [(.c (.d (.sc (.int .i64 8))))], none, 0, 0⟩,
                                ⟨(some 91), .buildSlice 4 3 [(.sc (.int .i64 0)), (.sc (.int .i64 0)), (.sc (.bool false)), (.sc (.bool false))] [(0, (.t 88)), (1, (.t 89)), (2, (.t 90))], none, 0, 0⟩,
                                ⟨(some 92), .callv (.t 87) [(.t 91)], none, 0, 0⟩] false)
                              (.exit 0))))
                           (.seq
                            (.region [⟨(some 93), .mov (.t 4), none, 0, 0⟩,
                              ⟨(some 94), .call 67 [], none, 0, 0⟩,
                              ⟨(some 95), .call 66 [(.c (.d (.sc (.int .i64 8))))], none, 0, 0⟩,
                              ⟨(some 96), .call 67 [], none, 0, 0⟩,
                              ⟨(some 97), .buildSlice 4 3 [(.sc (.int .i64 0)), (.sc (.int .i64 0)), (.sc (.bool false)), (.sc (.bool false))] [(0, (.t 94)), (1, (.t 95)), (2, (.t 96))], none, 0, 0⟩,
                              ⟨(some 98), .callv (.t 93) [(.t 97)], none, 0, 0⟩] false)
                            (.exit 0))))
                         (.seq
                          (.region [⟨(some 99), .mov (.t 4), none, 0, 0⟩,
                            ⟨(some 100), .call 67 [], none, 0, 0⟩,
                            ⟨(some 101), .call 67 [], none, 0, 0⟩,
                            ⟨(some 102), .call 67 [], none, 0, 0⟩,
                            ⟨(some 103), .buildSlice 4 3 [(.sc (.int .i64 0)), (.sc (.int .i64 0)), (.sc (.bool false)), (.sc (.bool false))] [(0, (.t 100)), (1, (.t 101)), (2, (.t 102))], none, 0, 0⟩,
                            ⟨(some 104), .callv (.t 99) [(.t 103)], none, 0, 0⟩] false)
                          (.exit 0))))
                       (.seq
                        (.region [⟨(some 105), .mov (.t 4), none, 0, 0⟩,
                          ⟨(some 106), .call 67 [], none, 0, 0⟩,
                          ⟨(some 107), .call 67 [], none, 0, 0⟩,
                          ⟨(some 108), .buildSlice 4 2 [(.sc (.int .i64 0)), (.sc (.int .i64 0)), (.sc (.bool false)), (.sc (.bool false))] [(0, (.t 106)), (1, (.t 107))], none, 0, 0⟩,
                          ⟨(some 109), .callv (.t 105) [(.t 108)], none, 0, 0⟩] false)
                        (.exit 0))))
                     (.seq
                      (.region [⟨(some 110), .mov (.t 4), none, 0, 0⟩,
                        ⟨(some 111), .call 66 [(.c (.d (.sc (.int .i64 200))))], none, 0, 0⟩,
                        ⟨(some 112), .buildSlice 4 1 [(.sc (.int .i64 0)), (.sc (.int .i64 0)), (.sc (.bool false)), (.sc (.bool false))] [(0, (.t 111))], none, 0, 0⟩,
                        ⟨(some 113), .callv (.t 110) [(.t 112)], none, 0, 0⟩] false)
                      (.exit 0))))
                   (.seq
                    (.region [⟨(some 114), .mov (.t 4), none, 0, 0⟩,
                      ⟨(some 115), .call 67 [], none, 0, 0⟩,
                      ⟨(some 116), .call 66 [(.c (.d (.sc (.int .i64 200))))], none, 0, 0⟩,
                      ⟨(some 117), .buildSlice 4 2 [(.sc (.int .i64 0)), (.sc (.int .i64 0)), (.sc (.bool false)), (.sc (.bool false))] [(0, (.t 115)), (1, (.t 116))], none, 0, 0⟩,
                      ⟨(some 118), .callv (.t 114) [(.t 117)], none, 0, 0⟩] false)
                    (.exit 0))))
                 (.seq
                  (.region [⟨(some 119), .mov (.t 4), none, 0, 0⟩,
                    ⟨(some 120), .call 67 [], none, 0, 0⟩,
                    ⟨(some 121), .buildSlice 4 1 [(.sc (.int .i64 0)), (.sc (.int .i64 0)), (.sc (.bool false)), (.sc (.bool false))] [(0, (.t 120))], none, 0, 0⟩,
                    ⟨(some 122), .callv (.t 119) [(.t 121)], none, 0, 0⟩] false)
                  (.exit 0))))
               (.seq
                (.seq
                 (.region [⟨(some 123), .mov (.t 4), none, 0, 0⟩,
                   ⟨(some 124), .call 64 [], none, 0, 0⟩,
                   ⟨(some 125), .call 66 [(.c (.d (.sc (.int .i64 32))))], none, 0, 0⟩,
                   ⟨(some 126), .buildSlice 4 2 [(.sc (.int .i64 0)), (.sc (.int .i64 0)), (.sc (.bool false)), (.sc (.bool false))] [(0, (.t 124)), (1, (.t 125))], none, 0, 0⟩,
                   ⟨(some 127), .callv (.t 123) [(.t 126)], none, 0, 0⟩] false)
                 (.region [⟨(some 128), .indexArr 3 4 (.t 2) (.c (.d (.sc (.int .i64 0)))), none, 0, 0⟩,
                   ⟨(some 129), .fieldAddr 0 (.t 128), none, 0, 0⟩,
                   ⟨none, .store 1 (.t 129) (.c (.d (.sc (.int .i64 (-1))))), none, 0, 0⟩] false))
                (.exit 0))))
             (.seq
              (.region [⟨(some 130), .mov (.t 4), none, 0, 0⟩,
                ⟨(some 131), .call 66 [(.c (.d (.sc (.int .i64 32))))], none, 0, 0⟩,
                ⟨(some 132), .buildSlice 4 1 [(.sc (.int .i64 0)), (.sc (.int .i64 0)), (.sc (.bool false)), (.sc (.bool false))] [(0, (.t 131))], none, 0, 0⟩,
                ⟨(some 133), .callv (.t 130) [(.t 132)], none, 0, 0⟩] false)
              (.exit 0))))
           (.seq
            (.region [⟨(some 134), .mov (.t 4), none, 0, 0⟩,
              ⟨(some 135), .call 64 [], none, 0, 0⟩,
              ⟨(some 136), .call 64 [], none, 0, 0⟩,
              ⟨(some 137), .buildSlice 4 2 [(.sc (.int .i64 0)), (.sc (.int .i64 0)), (.sc (.bool false)), (.sc (.bool false))] [(0, (.t 135)), (1, (.t 136))], none, 0, 0⟩,
              ⟨(some 138), .callv (.t 134) [(.t 137)], none, 0, 0⟩] false)
            (.exit 0))))
         (.seq
          (.seq
           (.region [⟨(some 139), .mov (.t 4), none, 0, 0⟩,
             ⟨(some 140), .call 67 [], none, 0, 0⟩,
             ⟨(some 141), .buildSlice 4 1 [(.sc (.int .i64 0)), (.sc (.int .i64 0)), (.sc (.bool false)), (.sc (.bool false))] [(0, (.t 140))], none, 0, 0⟩,
             ⟨(some 142), .callv (.t 139) [(.t 141)], none, 0, 0⟩] false)
           (.region [⟨(some 143), .indexArr 3 4 (.t 2) (.c (.d (.sc (.int .i64 0)))), none, 0, 0⟩,
             ⟨(some 144), .fieldAddr 0 (.t 143), none, 0, 0⟩,
             ⟨none, .store 1 (.t 144) (.c (.d (.sc (.int .i64 (-1))))), none, 0, 0⟩] false))
          (.exit 0))))
       (.seq
        (.region [⟨none, .store 1 (.t 3) (.c (.d (.sc (.int .i64 (-1))))), none, 0, 0⟩] false)
        (.exit 0)))))
    (.seq
     (.region [⟨(some 145), .load 12 true (.t 2), none, 0, 0⟩,
       ⟨(some 146), .load 1 false (.t 3), none, 0, 0⟩,
       ⟨none, .store 12 (.t 2) (.t 145), none, 1, 0⟩,
       ⟨none, .store 1 (.t 3) (.t 146), none, 7, 0⟩] true)
     .ret)))), false⟩
/-- wreckage/ops.operands -/
def t56 : AFn := ⟨1, 10, [.cell 2 3 true],
 (.seq
  (.region [⟨(some 1), .box (.t 0), none, 0, 0⟩,
    ⟨(some 2), .alloc [(.d (.sc (.int .i64 0))), (.d (.sc (.int .i64 0))), (.d (.sc (.int .i64 0)))], none, 0, 0⟩] false)
  (.seq
   (.region [⟨(some 3), .fieldAddr 1 (.t 1), none, 0, 0⟩,
     ⟨(some 4), .load 1 false (.t 3), none, 0, 0⟩,
     ⟨(some 5), .fieldAddr 2 (.t 1), none, 0, 0⟩,
     ⟨(some 6), .load 1 false (.t 5), none, 0, 0⟩,
     ⟨(some 7), .fieldAddr 3 (.t 1), none, 0, 0⟩,
     ⟨(some 8), .load 1 false (.t 7), none, 0, 0⟩,
     ⟨(some 9), .build [(.d (.sc (.int .i64 0))), (.d (.sc (.int .i64 0))), (.d (.sc (.int .i64 0)))] [(0, 1, (.t 4)), (1, 1, (.t 6)), (2, 1, (.t 8))], none, 0, 0⟩,
     ⟨none, .store 3 (.t 2) (.t 9), none, 0, 0⟩] false)
   .ret)), false⟩
/-- slices.IndexFunc[[]int,int] -/
def t60 : AFn := ⟨2, 19, [.t 4],
 (.seq
  (.region [⟨(some 4), .mov (.c (.d (.sc (.int .i64 0)))), none, 0, 0⟩] false)
  (.seq
   (.seq
    (.region [⟨(some 6), .mov (.t 0), none, 0, 0⟩,
      ⟨(some 7), .len (.t 6), none, 0, 0⟩,
      ⟨(some 8), .mov (.c (.d (.sc (.int .i64 0)))), none, 0, 0⟩] false)
    (.block 0
     (.loop
      (.seq
       (.region [⟨(some 9), .bin .lss (.t 8) (.t 7), none, 0, 0⟩] false)
       (.seq
        (.cond (.t 9)
         .skip
         (.exit 0))
        (.seq
         (.block 1
          (.seq
           (.region [⟨(some 10), .mov (.t 8), none, 0, 0⟩,
             ⟨(some 5), .mov (.t 10), none, 0, 0⟩] false)
           (.seq
            (.region [⟨(some 11), .mov (.t 1), none, 0, 0⟩,
              ⟨(some 12), .mov (.t 0), none, 0, 0⟩,
              ⟨(some 13), .mov (.t 5), none, 0, 0⟩,
              ⟨(some 14), .indexAddr 1 (.t 12) (.t 13), none, 0, 0⟩,
              ⟨(some 15), .load 1 false (.t 14), none, 0, 0⟩,
              ⟨(some 16), .callv (.t 11) [(.t 15)], none, 0, 0⟩] false)
            (.cond (.t 16)
             (.seq
              (.region [⟨(some 17), .mov (.t 5), none, 0, 0⟩,
                ⟨(some 4), .mov (.t 17), none, 0, 0⟩] false)
              .ret)
             .skip))))
         (.region [⟨(some 18), .bin .add (.t 8) (.c (.d (.sc (.int .i64 1)))), none, 0, 0⟩,
           ⟨(some 8), .mov (.t 18), none, 0, 0⟩] false)))))))
   (.seq
    (.region [⟨(some 4), .mov (.c (.d (.sc (.int .i64 (-1))))), none, 0, 0⟩] false)
    .ret))), true⟩
/-- slices.pdqsortOrdered[int] -/
def t61 : AFn := ⟨4, 134, [],
 (.seq
  (.region [⟨(some 8), .mov (.c (.d (.sc (.bool true)))), none, 0, 0⟩] false)
  (.seq
   (.region [⟨(some 9), .mov (.c (.d (.sc (.bool true)))), none, 0, 0⟩] false)
   (.block 0
    (.loop
     (.block 1
      (.seq
       (.region [⟨(some 19), .mov (.t 2), none, 0, 0⟩,
         ⟨(some 20), .mov (.t 1), none, 0, 0⟩,
         ⟨(some 21), .bin .sub (.t 19) (.t 20), none, 0, 0⟩,
         ⟨(some 10), .mov (.t 21), none, 0, 0⟩] false)
       (.seq
        (.seq
         (.region [⟨(some 22), .mov (.t 10), none, 0, 0⟩,
           ⟨(some 23), .bin .leq (.t 22) (.c (.d (.sc (.int .i64 12)))), none, 0, 0⟩] false)
         (.cond (.t 23)
          (.seq
           (.region [⟨(some 24), .mov (.t 0), none, 0, 0⟩,
             ⟨(some 25), .mov (.t 1), none, 0, 0⟩,
             ⟨(some 26), .mov (.t 2), none, 0, 0⟩,
             ⟨(some 27), .call 68 [(.t 24), (.t 25), (.t 26)], none, 0, 0⟩] false)
           .ret)
          .skip))
        (.seq
         (.seq
          (.region [⟨(some 28), .mov (.t 3), none, 0, 0⟩,
            ⟨(some 29), .bin .eql (.t 28) (.c (.d (.sc (.int .i64 0)))), none, 0, 0⟩] false)
          (.cond (.t 29)
           (.seq
            (.region [⟨(some 30), .mov (.t 0), none, 0, 0⟩,
              ⟨(some 31), .mov (.t 1), none, 0, 0⟩,
              ⟨(some 32), .mov (.t 2), none, 0, 0⟩,
              ⟨(some 33), .call 69 [(.t 30), (.t 31), (.t 32)], none, 0, 0⟩] false)
            .ret)
           .skip))
         (.seq
          (.seq
           (.region [⟨(some 34), .mov (.t 8), none, 0, 0⟩,
             ⟨(some 35), .un .not (.t 34), none, 0, 0⟩] false)
           (.cond (.t 35)
            (.seq
             (.region [⟨(some 36), .mov (.t 0), none, 0, 0⟩,
               ⟨(some 37), .mov (.t 1), none, 0, 0⟩,
               ⟨(some 38), .mov (.t 2), none, 0, 0⟩,
               ⟨(some 39), .call 70 [(.t 36), (.t 37), (.t 38)], none, 0, 0⟩] false)
             (.region [⟨(some 40), .mov (.t 3), none, 0, 0⟩,
               ⟨(some 41), .bin .sub (.t 40) (.c (.d (.sc (.int .i64 1)))), none, 0, 0⟩,
               ⟨(some 3), .mov (.t 41), none, 0, 0⟩] false))
            .skip))
          (.seq
           (.region [⟨(some 43), .mov (.t 0), none, 0, 0⟩,
             ⟨(some 44), .mov (.t 1), none, 0, 0⟩,
             ⟨(some 45), .mov (.t 2), none, 0, 0⟩,
             ⟨(some 46), .call 71 [(.t 43), (.t 44), (.t 45)], none, 0, 0⟩,
             ⟨(some 42), .mov (.t 46), none, 0, 0⟩,
             ⟨(some 47), .extract (.t 42) 0, none, 0, 0⟩,
             ⟨(some 48), .extract (.t 42) 1, none, 0, 0⟩,
             ⟨(some 11), .mov (.t 47), none, 0, 0⟩,
             ⟨(some 12), .mov (.t 48), none, 0, 0⟩] false)
           (.seq
            (.seq
             (.region [⟨(some 49), .mov (.t 12), none, 0, 0⟩,
               ⟨(some 50), .bin .eql (.t 49) (.c (.d (.sc (.int .i64 2)))), none, 0, 0⟩] false)
             (.cond (.t 50)
              (.seq
               (.region [⟨(some 51), .mov (.t 0), none, 0, 0⟩,
                 ⟨(some 52), .mov (.t 1), none, 0, 0⟩,
                 ⟨(some 53), .mov (.t 2), none, 0, 0⟩,
                 ⟨(some 54), .call 72 [(.t 51), (.t 52), (.t 53)], none, 0, 0⟩] false)
               (.seq
                (.region [⟨(some 55), .mov (.t 2), none, 0, 0⟩,
                  ⟨(some 56), .bin .sub (.t 55) (.c (.d (.sc (.int .i64 1)))), none, 0, 0⟩,
                  ⟨(some 57), .mov (.t 11), none, 0, 0⟩,
                  ⟨(some 58), .mov (.t 1), none, 0, 0⟩,
                  ⟨(some 59), .bin .sub (.t 57) (.t 58), none, 0, 0⟩,
                  ⟨(some 60), .bin .sub (.t 56) (.t 59), none, 0, 0⟩,
                  ⟨(some 11), .mov (.t 60), none, 0, 0⟩] false)
                (.region [⟨(some 12), .mov (.c (.d (.sc (.int .i64 1)))), none, 0, 0⟩] false)))
              .skip))
            (.seq
             (.seq
              (.region [⟨(some 61), .mov (.t 8), none, 0, 0⟩,
                ⟨(some 62), .mov (.t 61), none, 0, 0⟩,
                ⟨(some 63), .mov (.t 9), (some (62, true)), 0, 0⟩,
                ⟨(some 64), .pick (.t 62) (.t 63) (.c (.d (.sc (.bool false)))), none, 0, 0⟩,
                ⟨(some 65), .mov (.t 64), none, 0, 0⟩,
                ⟨(some 66), .mov (.t 12), (some (65, true)), 0, 0⟩,
                ⟨(some 67), .bin .eql (.t 66) (.c (.d (.sc (.int .i64 1)))), (some (65, true)), 0, 0⟩,
                ⟨(some 68), .pick (.t 65) (.t 67) (.c (.d (.sc (.bool false)))), none, 0, 0⟩] false)
              (.cond (.t 68)
               (.seq
                (.region [⟨(some 69), .mov (.t 0), none, 0, 0⟩,
                  ⟨(some 70), .mov (.t 1), none, 0, 0⟩,
                  ⟨(some 71), .mov (.t 2), none, 0, 0⟩,
                  ⟨(some 72), .call 73 [(.t 69), (.t 70), (.t 71)], none, 0, 0⟩] false)
                (.cond (.t 72)
                 .ret
                 .skip))
               .skip))
             (.seq
              (.seq
               (.region [⟨(some 73), .mov (.t 1), none, 0, 0⟩,
                 ⟨(some 74), .bin .gtr (.t 73) (.c (.d (.sc (.int .i64 0)))), none, 1, 0⟩,
                 ⟨(some 75), .mov (.t 74), none, 3, 0⟩,
                 ⟨(some 76), .mov (.t 0), (some (75, true)), 7, 0⟩,
                 ⟨(some 77), .mov (.t 1), (some (75, true)), 7, 0⟩,
                 ⟨(some 78), .bin .sub (.t 77) (.c (.d (.sc (.int .i64 1)))), (some (75, true)), 23, 0⟩,
                 ⟨(some 79), .indexAddr 1 (.t 76) (.t 78), (some (75, true)), 63, 0⟩,
                 ⟨(some 80), .load 1 false (.t 79), (some (75, true)), 127, 0⟩,
                 ⟨(some 81), .mov (.t 0), (some (75, true)), 7, 0⟩,
                 ⟨(some 82), .mov (.t 11), (some (75, true)), 7, 0⟩,
                 ⟨(some 83), .indexAddr 1 (.t 81) (.t 82), (some (75, true)), 775, 0⟩,
                 ⟨(some 84), .load 1 false (.t 83), (some (75, true)), 1799, 0⟩,
                 ⟨(some 85), .call 74 [(.t 80), (.t 84)], (some (75, true)), 4095, 0⟩,
                 ⟨(some 86), .un .not (.t 85), (some (75, true)), 8191, 0⟩,
                 ⟨(some 87), .pick (.t 75) (.t 86) (.c (.d (.sc (.bool false)))), none, 16383, 0⟩] true)
               (.cond (.t 87)
                (.seq
                 (.region [⟨(some 88), .mov (.t 0), none, 0, 0⟩,
                   ⟨(some 89), .mov (.t 1), none, 0, 0⟩,
                   ⟨(some 90), .mov (.t 2), none, 0, 0⟩,
                   ⟨(some 91), .mov (.t 11), none, 0, 0⟩,
                   ⟨(some 92), .call 75 [(.t 88), (.t 89), (.t 90), (.t 91)], none, 0, 0⟩,
                   ⟨(some 13), .mov (.t 92), none, 0, 0⟩] false)
                 (.seq
                  (.region [⟨(some 93), .mov (.t 13), none, 0, 0⟩,
                    ⟨(some 1), .mov (.t 93), none, 0, 0⟩] false)
                  (.exit 1)))
                .skip))
              (.seq
               (.region [⟨(some 95), .mov (.t 0), none, 0, 0⟩,
                 ⟨(some 96), .mov (.t 1), none, 0, 0⟩,
                 ⟨(some 97), .mov (.t 2), none, 0, 0⟩,
                 ⟨(some 98), .mov (.t 11), none, 0, 0⟩,
                 ⟨(some 99), .call 76 [(.t 95), (.t 96), (.t 97), (.t 98)], none, 0, 0⟩,
                 ⟨(some 94), .mov (.t 99), none, 0, 0⟩,
                 ⟨(some 100), .extract (.t 94) 0, none, 0, 0⟩,
                 ⟨(some 101), .extract (.t 94) 1, none, 0, 0⟩,
                 ⟨(some 14), .mov (.t 100), none, 0, 0⟩,
                 ⟨(some 15), .mov (.t 101), none, 0, 0⟩] false)
               (.seq
                (.region [⟨(some 102), .mov (.t 15), none, 0, 0⟩,
                  ⟨(some 9), .mov (.t 102), none, 0, 0⟩] false)
                (.seq
                 (.region [⟨(some 103), .mov (.t 14), none, 0, 0⟩,
                   ⟨(some 104), .mov (.t 1), none, 0, 0⟩,
                   ⟨(some 105), .bin .sub (.t 103) (.t 104), none, 0, 0⟩,
                   ⟨(some 106), .mov (.t 2), none, 0, 0⟩,
                   ⟨(some 107), .mov (.t 14), none, 0, 0⟩,
                   ⟨(some 108), .bin .sub (.t 106) (.t 107), none, 0, 0⟩,
                   ⟨(some 16), .mov (.t 105), none, 0, 0⟩,
                   ⟨(some 17), .mov (.t 108), none, 0, 0⟩] false)
                 (.seq
                  (.region [⟨(some 109), .mov (.t 10), none, 0, 0⟩,
                    ⟨(some 110), .bin .quo (.t 109) (.c (.d (.sc (.int .i64 8)))), none, 0, 0⟩,
                    ⟨(some 18), .mov (.t 110), none, 0, 0⟩] false)
                  (.seq
                   (.region [⟨(some 111), .mov (.t 16), none, 0, 0⟩,
                     ⟨(some 112), .mov (.t 17), none, 0, 0⟩,
                     ⟨(some 113), .bin .lss (.t 111) (.t 112), none, 0, 0⟩] false)
                   (.cond (.t 113)
                    (.seq
                     (.region [⟨(some 114), .mov (.t 16), none, 0, 0⟩,
                       ⟨(some 115), .mov (.t 18), none, 0, 0⟩,
                       ⟨(some 116), .bin .geq (.t 114) (.t 115), none, 0, 0⟩,
                       ⟨(some 8), .mov (.t 116), none, 0, 0⟩] false)
                     (.seq
                      (.region [⟨(some 117), .mov (.t 0), none, 0, 0⟩,
                        ⟨(some 118), .mov (.t 1), none, 0, 0⟩,
                        ⟨(some 119), .mov (.t 14), none, 0, 0⟩,
                        ⟨(some 120), .mov (.t 3), none, 0, 0⟩,
                        ⟨(some 121), .call 61 [(.t 117), (.t 118), (.t 119), (.t 120)], none, 0, 0⟩] false)
                      (.region [⟨(some 122), .mov (.t 14), none, 0, 0⟩,
                        ⟨(some 123), .bin .add (.t 122) (.c (.d (.sc (.int .i64 1)))), none, 0, 0⟩,
                        ⟨(some 1), .mov (.t 123), none, 0, 0⟩] false)))
                    (.seq
                     (.region [⟨(some 124), .mov (.t 17), none, 0, 0⟩,
                       ⟨(some 125), .mov (.t 18), none, 0, 0⟩,
                       ⟨(some 126), .bin .geq (.t 124) (.t 125), none, 0, 0⟩,
                       ⟨(some 8), .mov (.t 126), none, 0, 0⟩] false)
                     (.seq
                      (.region [⟨(some 127), .mov (.t 0), none, 0, 0⟩,
                        ⟨(some 128), .mov (.t 14), none, 0, 0⟩,
                        ⟨(some 129), .bin .add (.t 128) (.c (.d (.sc (.int .i64 1)))), none, 0, 0⟩,
                        ⟨(some 130), .mov (.t 2), none, 0, 0⟩,
                        ⟨(some 131), .mov (.t 3), none, 0, 0⟩,
                        ⟨(some 132), .call 61 [(.t 127), (.t 129), (.t 130), (.t 131)], none, 0, 0⟩] false)
                      (.region [⟨(some 133), .mov (.t 14), none, 0, 0⟩,
                        ⟨(some 2), .mov (.t 133), none, 0, 0⟩] false)))))))))))))))))))))), true⟩
/-- math/bits.Len -/
def t62 : AFn := ⟨1, 8, [.t 2],
 (.seq
  (.region [⟨(some 2), .mov (.c (.d (.sc (.int .i64 0)))), none, 0, 0⟩] false)
  (.seq
   (.cond (.c (.d (.sc (.bool false))))
    (.seq
     (.region [⟨(some 3), .mov (.t 0), none, 0, 0⟩,
       ⟨(some 4), .conv .u32 (.t 3), none, 0, 0⟩,
       ⟨(some 5), .call 77 [(.t 4)], none, 0, 0⟩,
       ⟨(some 2), .mov (.t 5), none, 0, 0⟩] false)
     .ret)
    .skip)
   (.seq
    (.region [⟨(some 6), .mov (.t 0), none, 0, 0⟩,
      ⟨(some 7), .call 78 [(.t 6)], none, 0, 0⟩,
      ⟨(some 2), .mov (.t 7), none, 0, 0⟩] false)
    .ret))), false⟩
/-- wreckage/ops.shape$1 -/
def t63 : AFn := ⟨3, 7, [],
 (.region [⟨(some 4), .sliceB 3 4 (.t 1), none, 0, 0⟩,
   ⟨(some 5), .mov (.t 0), none, 0, 0⟩,
   ⟨(some 6), .copy 4 (.t 4) (.t 5), none, 0, 0⟩,
   ⟨none, .store 1 (.t 2) (.t 6), none, 0, 0⟩] false), true⟩
/-- wreckage/ops.write -/
def t64 : AFn := ⟨0, 2, [.cell 0 4 true],
 (.seq
  (.region [⟨(some 0), .alloc [(.d (.sc (.int .i64 0))), (.d (.sc (.int .i64 0))), (.d (.sc (.bool false))), (.d (.sc (.bool false)))], none, 0, 0⟩] false)
  (.seq
   (.region [⟨(some 1), .build [(.d (.sc (.int .i64 0))), (.d (.sc (.int .i64 0))), (.d (.sc (.bool false))), (.d (.sc (.bool false)))] [(0, 1, (.c (.d (.sc (.int .i64 0))))), (1, 1, (.c (.d (.sc (.int .i64 15))))), (2, 1, (.c (.d (.sc (.bool false))))), (3, 1, (.c (.d (.sc (.bool true)))))], none, 0, 0⟩,
     ⟨none, .store 4 (.t 0) (.t 1), none, 0, 0⟩] false)
   .ret)), false⟩
/-- wreckage/ops.whole -/
def t65 : AFn := ⟨0, 2, [.cell 0 4 true],
 (.seq
  (.region [⟨(some 0), .alloc [(.d (.sc (.int .i64 0))), (.d (.sc (.int .i64 0))), (.d (.sc (.bool false))), (.d (.sc (.bool false)))], none, 0, 0⟩] false)
  (.seq
   (.region [⟨(some 1), .build [(.d (.sc (.int .i64 0))), (.d (.sc (.int .i64 0))), (.d (.sc (.bool false))), (.d (.sc (.bool false)))] [(0, 1, (.c (.d (.sc (.int .i64 (-9223372036854775808)))))), (1, 1, (.c (.d (.sc (.int .i64 9223372036854775807))))), (2, 1, (.c (.d (.sc (.bool false))))), (3, 1, (.c (.d (.sc (.bool false)))))], none, 0, 0⟩,
     ⟨none, .store 4 (.t 0) (.t 1), none, 0, 0⟩] false)
   .ret)), false⟩
/-- wreckage/ops.below -/
def t66 : AFn := ⟨1, 6, [.cell 2 4 true],
 (.seq
  (.region [⟨(some 2), .alloc [(.d (.sc (.int .i64 0))), (.d (.sc (.int .i64 0))), (.d (.sc (.bool false))), (.d (.sc (.bool false)))], none, 0, 0⟩] false)
  (.seq
   (.region [⟨(some 3), .mov (.t 0), none, 0, 0⟩,
     ⟨(some 4), .bin .sub (.t 3) (.c (.d (.sc (.int .i64 1)))), none, 0, 0⟩,
     ⟨(some 5), .build [(.d (.sc (.int .i64 0))), (.d (.sc (.int .i64 0))), (.d (.sc (.bool false))), (.d (.sc (.bool false)))] [(0, 1, (.c (.d (.sc (.int .i64 0))))), (1, 1, (.t 4)), (2, 1, (.c (.d (.sc (.bool false))))), (3, 1, (.c (.d (.sc (.bool false)))))], none, 0, 0⟩,
     ⟨none, .store 4 (.t 2) (.t 5), none, 0, 0⟩] false)
   .ret)), false⟩
/-- wreckage/ops.read -/
def t67 : AFn := ⟨0, 2, [.cell 0 4 true],
 (.seq
  (.region [⟨(some 0), .alloc [(.d (.sc (.int .i64 0))), (.d (.sc (.int .i64 0))), (.d (.sc (.bool false))), (.d (.sc (.bool false)))], none, 0, 0⟩] false)
  (.seq
   (.region [⟨(some 1), .build [(.d (.sc (.int .i64 0))), (.d (.sc (.int .i64 0))), (.d (.sc (.bool false))), (.d (.sc (.bool false)))] [(0, 1, (.c (.d (.sc (.int .i64 0))))), (1, 1, (.c (.d (.sc (.int .i64 15))))), (2, 1, (.c (.d (.sc (.bool true))))), (3, 1, (.c (.d (.sc (.bool false)))))], none, 0, 0⟩,
     ⟨none, .store 4 (.t 0) (.t 1), none, 0, 0⟩] false)
   .ret)), false⟩
/-- slices.insertionSortOrdered[int] -/
def t68 : AFn := ⟨3, 49, [],
 (.seq
  (.region [⟨(some 8), .mov (.t 1), none, 0, 0⟩,
    ⟨(some 9), .bin .add (.t 8) (.c (.d (.sc (.int .i64 1)))), none, 0, 0⟩,
    ⟨(some 6), .mov (.t 9), none, 0, 0⟩] false)
  (.block 0
   (.loop
    (.seq
     (.seq
      (.region [⟨(some 10), .mov (.t 6), none, 0, 0⟩,
        ⟨(some 11), .mov (.t 2), none, 0, 0⟩,
        ⟨(some 12), .bin .lss (.t 10) (.t 11), none, 0, 0⟩] false)
      (.cond (.t 12)
       .skip
       (.exit 0)))
     (.seq
      (.block 1
       (.seq
        (.region [⟨(some 15), .mov (.t 6), none, 0, 0⟩,
          ⟨(some 7), .mov (.t 15), none, 0, 0⟩] false)
        (.block 2
         (.loop
          (.seq
           (.seq
            (.region [⟨(some 16), .mov (.t 7), none, 0, 0⟩,
              ⟨(some 17), .mov (.t 1), none, 0, 0⟩,
              ⟨(some 18), .bin .gtr (.t 16) (.t 17), none, 3, 0⟩,
              ⟨(some 19), .mov (.t 18), none, 7, 0⟩,
              ⟨(some 20), .mov (.t 0), (some (19, true)), 15, 0⟩,
              ⟨(some 21), .mov (.t 7), (some (19, true)), 15, 0⟩,
              ⟨(some 22), .indexAddr 1 (.t 20) (.t 21), (some (19, true)), 63, 0⟩,
              ⟨(some 23), .load 1 false (.t 22), (some (19, true)), 127, 0⟩,
              ⟨(some 24), .mov (.t 0), (some (19, true)), 15, 0⟩,
              ⟨(some 25), .mov (.t 7), (some (19, true)), 15, 0⟩,
              ⟨(some 26), .bin .sub (.t 25) (.c (.d (.sc (.int .i64 1)))), (some (19, true)), 527, 0⟩,
              ⟨(some 27), .indexAddr 1 (.t 24) (.t 26), (some (19, true)), 1807, 0⟩,
              ⟨(some 28), .load 1 false (.t 27), (some (19, true)), 3855, 0⟩,
              ⟨(some 29), .call 74 [(.t 23), (.t 28)], (some (19, true)), 8191, 0⟩,
              ⟨(some 30), .pick (.t 19) (.t 29) (.c (.d (.sc (.bool false)))), none, 16383, 0⟩] true)
            (.cond (.t 30)
             .skip
             (.exit 2)))
           (.seq
            (.block 3
             (.region [⟨(some 33), .mov (.t 0), none, 0, 0⟩,
               ⟨(some 34), .mov (.t 7), none, 0, 0⟩,
               ⟨(some 35), .mov (.t 0), none, 0, 0⟩,
               ⟨(some 36), .mov (.t 7), none, 0, 0⟩,
               ⟨(some 37), .bin .sub (.t 36) (.c (.d (.sc (.int .i64 1)))), none, 8, 0⟩,
               ⟨(some 38), .mov (.t 0), none, 0, 0⟩,
               ⟨(some 39), .mov (.t 7), none, 0, 0⟩,
               ⟨(some 40), .bin .sub (.t 39) (.c (.d (.sc (.int .i64 1)))), none, 64, 0⟩,
               ⟨(some 41), .indexAddr 1 (.t 38) (.t 40), none, 224, 0⟩,
               ⟨(some 42), .load 1 false (.t 41), none, 480, 0⟩,
               ⟨(some 43), .mov (.t 0), none, 0, 0⟩,
               ⟨(some 44), .mov (.t 7), none, 0, 0⟩,
               ⟨(some 45), .indexAddr 1 (.t 43) (.t 44), none, 3072, 0⟩,
               ⟨(some 46), .load 1 false (.t 45), none, 7168, 0⟩,
               ⟨(some 47), .indexAddr 1 (.t 33) (.t 34), none, 16355, 0⟩,
               ⟨none, .store 1 (.t 47) (.t 42), none, 32739, 0⟩,
               ⟨(some 48), .indexAddr 1 (.t 35) (.t 37), none, 65535, 0⟩,
               ⟨none, .store 1 (.t 48) (.t 46), none, 131071, 0⟩] true))
            (.region [⟨(some 31), .mov (.t 7), none, 0, 0⟩,
              ⟨(some 32), .bin .sub (.t 31) (.c (.d (.sc (.int .i64 1)))), none, 0, 0⟩,
              ⟨(some 7), .mov (.t 32), none, 0, 0⟩] false)))))))
      (.region [⟨(some 13), .mov (.t 6), none, 0, 0⟩,
        ⟨(some 14), .bin .add (.t 13) (.c (.d (.sc (.int .i64 1)))), none, 0, 0⟩,
        ⟨(some 6), .mov (.t 14), none, 0, 0⟩] false)))))), true⟩
/-- slices.heapSortOrdered[int] -/
def t69 : AFn := ⟨3, 56, [],
 (.seq
  (.region [⟨(some 11), .mov (.t 1), none, 0, 0⟩,
    ⟨(some 6), .mov (.t 11), none, 0, 0⟩] false)
  (.seq
   (.region [⟨(some 7), .mov (.c (.d (.sc (.int .i64 0)))), none, 0, 0⟩] false)
   (.seq
    (.region [⟨(some 12), .mov (.t 2), none, 0, 0⟩,
      ⟨(some 13), .mov (.t 1), none, 0, 0⟩,
      ⟨(some 14), .bin .sub (.t 12) (.t 13), none, 0, 0⟩,
      ⟨(some 8), .mov (.t 14), none, 0, 0⟩] false)
    (.seq
     (.seq
      (.region [⟨(some 15), .mov (.t 8), none, 0, 0⟩,
        ⟨(some 16), .bin .sub (.t 15) (.c (.d (.sc (.int .i64 1)))), none, 0, 0⟩,
        ⟨(some 17), .bin .quo (.t 16) (.c (.d (.sc (.int .i64 2)))), none, 0, 0⟩,
        ⟨(some 9), .mov (.t 17), none, 0, 0⟩] false)
      (.block 0
       (.loop
        (.seq
         (.seq
          (.region [⟨(some 18), .mov (.t 9), none, 0, 0⟩,
            ⟨(some 19), .bin .geq (.t 18) (.c (.d (.sc (.int .i64 0)))), none, 0, 0⟩] false)
          (.cond (.t 19)
           .skip
           (.exit 0)))
         (.seq
          (.block 1
           (.region [⟨(some 22), .mov (.t 0), none, 0, 0⟩,
             ⟨(some 23), .mov (.t 9), none, 0, 0⟩,
             ⟨(some 24), .mov (.t 8), none, 0, 0⟩,
             ⟨(some 25), .mov (.t 6), none, 0, 0⟩,
             ⟨(some 26), .call 79 [(.t 22), (.t 23), (.t 24), (.t 25)], none, 0, 0⟩] false))
          (.region [⟨(some 20), .mov (.t 9), none, 0, 0⟩,
            ⟨(some 21), .bin .sub (.t 20) (.c (.d (.sc (.int .i64 1)))), none, 0, 0⟩,
            ⟨(some 9), .mov (.t 21), none, 0, 0⟩] false))))))
     (.seq
      (.region [⟨(some 27), .mov (.t 8), none, 0, 0⟩,
        ⟨(some 28), .bin .sub (.t 27) (.c (.d (.sc (.int .i64 1)))), none, 0, 0⟩,
        ⟨(some 10), .mov (.t 28), none, 0, 0⟩] false)
      (.block 2
       (.loop
        (.seq
         (.seq
          (.region [⟨(some 29), .mov (.t 10), none, 0, 0⟩,
            ⟨(some 30), .bin .geq (.t 29) (.c (.d (.sc (.int .i64 0)))), none, 0, 0⟩] false)
          (.cond (.t 30)
           .skip
           (.exit 2)))
         (.seq
          (.block 3
           (.seq
            (.region [⟨(some 33), .mov (.t 0), none, 0, 0⟩,
              ⟨(some 34), .mov (.t 6), none, 0, 0⟩,
              ⟨(some 35), .mov (.t 0), none, 0, 0⟩,
              ⟨(some 36), .mov (.t 6), none, 0, 0⟩,
              ⟨(some 37), .mov (.t 10), none, 0, 0⟩,
              ⟨(some 38), .bin .add (.t 36) (.t 37), none, 24, 0⟩,
              ⟨(some 39), .mov (.t 0), none, 0, 0⟩,
              ⟨(some 40), .mov (.t 6), none, 0, 0⟩,
              ⟨(some 41), .mov (.t 10), none, 0, 0⟩,
              ⟨(some 42), .bin .add (.t 40) (.t 41), none, 384, 0⟩,
              ⟨(some 43), .indexAddr 1 (.t 39) (.t 42), none, 960, 0⟩,
              ⟨(some 44), .load 1 false (.t 43), none, 1984, 0⟩,
              ⟨(some 45), .mov (.t 0), none, 0, 0⟩,
              ⟨(some 46), .mov (.t 6), none, 0, 0⟩,
              ⟨(some 47), .indexAddr 1 (.t 45) (.t 46), none, 12288, 0⟩,
              ⟨(some 48), .load 1 false (.t 47), none, 28672, 0⟩,
              ⟨(some 49), .indexAddr 1 (.t 33) (.t 34), none, 65475, 0⟩,
              ⟨none, .store 1 (.t 49) (.t 44), none, 131011, 0⟩,
              ⟨(some 50), .indexAddr 1 (.t 35) (.t 38), none, 262143, 0⟩,
              ⟨none, .store 1 (.t 50) (.t 48), none, 524287, 0⟩] true)
            (.region [⟨(some 51), .mov (.t 0), none, 0, 0⟩,
              ⟨(some 52), .mov (.t 7), none, 0, 0⟩,
              ⟨(some 53), .mov (.t 10), none, 0, 0⟩,
              ⟨(some 54), .mov (.t 6), none, 0, 0⟩,
              ⟨(some 55), .call 79 [(.t 51), (.t 52), (.t 53), (.t 54)], none, 0, 0⟩] false)))
          (.region [⟨(some 31), .mov (.t 10), none, 0, 0⟩,
            ⟨(some 32), .bin .sub (.t 31) (.c (.d (.sc (.int .i64 1)))), none, 0, 0⟩,
            ⟨(some 10), .mov (.t 32), none, 0, 0⟩] false)))))))))), true⟩
/-- slices.breakPatternsOrdered[int] -/
def t70 : AFn := ⟨3, 65, [],
 (.seq
  (.region [⟨(some 11), .mov (.t 2), none, 0, 0⟩,
    ⟨(some 12), .mov (.t 1), none, 0, 0⟩,
    ⟨(some 13), .bin .sub (.t 11) (.t 12), none, 0, 0⟩,
    ⟨(some 6), .mov (.t 13), none, 0, 0⟩] false)
  (.seq
   (.region [⟨(some 14), .mov (.t 6), none, 0, 0⟩,
     ⟨(some 15), .bin .geq (.t 14) (.c (.d (.sc (.int .i64 8)))), none, 0, 0⟩] false)
   (.cond (.t 15)
    (.seq
     (.region [⟨(some 16), .mov (.t 6), none, 0, 0⟩,
       ⟨(some 17), .conv .u64 (.t 16), none, 0, 0⟩,
       ⟨(some 7), .alloc [(.d (.sc (.int .u64 0)))], none, 0, 0⟩,
       ⟨none, .store 1 (.t 7) (.t 17), none, 0, 0⟩] false)
     (.seq
      (.region [⟨(some 18), .mov (.t 6), none, 0, 0⟩,
        ⟨(some 19), .call 80 [(.t 18)], none, 0, 0⟩,
        ⟨(some 8), .mov (.t 19), none, 0, 0⟩] false)
      (.seq
       (.region [⟨(some 20), .mov (.t 1), none, 0, 0⟩,
         ⟨(some 21), .mov (.t 6), none, 0, 0⟩,
         ⟨(some 22), .bin .quo (.t 21) (.c (.d (.sc (.int .i64 4)))), none, 0, 0⟩,
         ⟨(some 23), .bin .mul (.t 22) (.c (.d (.sc (.int .i64 2)))), none, 0, 0⟩,
         ⟨(some 24), .bin .add (.t 20) (.t 23), none, 0, 0⟩,
         ⟨(some 25), .bin .sub (.t 24) (.c (.d (.sc (.int .i64 1)))), none, 0, 0⟩,
         ⟨(some 9), .mov (.t 25), none, 0, 0⟩] false)
       (.block 0
        (.loop
         (.seq
          (.seq
           (.region [⟨(some 26), .mov (.t 9), none, 0, 0⟩,
             ⟨(some 27), .mov (.t 1), none, 0, 0⟩,
             ⟨(some 28), .mov (.t 6), none, 0, 0⟩,
             ⟨(some 29), .bin .quo (.t 28) (.c (.d (.sc (.int .i64 4)))), none, 0, 0⟩,
             ⟨(some 30), .bin .mul (.t 29) (.c (.d (.sc (.int .i64 2)))), none, 0, 0⟩,
             ⟨(some 31), .bin .add (.t 27) (.t 30), none, 0, 0⟩,
             ⟨(some 32), .bin .add (.t 31) (.c (.d (.sc (.int .i64 1)))), none, 0, 0⟩,
             ⟨(some 33), .bin .leq (.t 26) (.t 32), none, 0, 0⟩] false)
           (.cond (.t 33)
            .skip
            (.exit 0)))
          (.seq
           (.block 1
            (.seq
             (.region [⟨(some 36), .call 81 [(.t 7)], none, 0, 0⟩,
               ⟨(some 37), .mov (.t 8), none, 0, 0⟩,
               ⟨(some 38), .bin .sub (.t 37) (.c (.d (.sc (.int .u64 1)))), none, 0, 0⟩,
               ⟨(some 39), .bin .and (.t 36) (.t 38), none, 0, 0⟩,
               ⟨(some 40), .conv .i64 (.t 39), none, 0, 0⟩,
               ⟨(some 10), .mov (.t 40), none, 0, 0⟩] false)
             (.seq
              (.seq
               (.region [⟨(some 41), .mov (.t 10), none, 0, 0⟩,
                 ⟨(some 42), .mov (.t 6), none, 0, 0⟩,
                 ⟨(some 43), .bin .geq (.t 41) (.t 42), none, 0, 0⟩] false)
               (.cond (.t 43)
                (.region [⟨(some 44), .mov (.t 10), none, 0, 0⟩,
                  ⟨(some 45), .mov (.t 6), none, 0, 0⟩,
                  ⟨(some 46), .bin .sub (.t 44) (.t 45), none, 0, 0⟩,
                  ⟨(some 10), .mov (.t 46), none, 0, 0⟩] false)
                .skip))
              (.region [⟨(some 47), .mov (.t 0), none, 0, 0⟩,
                ⟨(some 48), .mov (.t 9), none, 0, 0⟩,
                ⟨(some 49), .mov (.t 0), none, 0, 0⟩,
                ⟨(some 50), .mov (.t 1), none, 0, 0⟩,
                ⟨(some 51), .mov (.t 10), none, 0, 0⟩,
                ⟨(some 52), .bin .add (.t 50) (.t 51), none, 24, 0⟩,
                ⟨(some 53), .mov (.t 0), none, 0, 0⟩,
                ⟨(some 54), .mov (.t 1), none, 0, 0⟩,
                ⟨(some 55), .mov (.t 10), none, 0, 0⟩,
                ⟨(some 56), .bin .add (.t 54) (.t 55), none, 384, 0⟩,
                ⟨(some 57), .indexAddr 1 (.t 53) (.t 56), none, 960, 0⟩,
                ⟨(some 58), .load 1 false (.t 57), none, 1984, 0⟩,
                ⟨(some 59), .mov (.t 0), none, 0, 0⟩,
                ⟨(some 60), .mov (.t 9), none, 0, 0⟩,
                ⟨(some 61), .indexAddr 1 (.t 59) (.t 60), none, 12288, 0⟩,
                ⟨(some 62), .load 1 false (.t 61), none, 28672, 0⟩,
                ⟨(some 63), .indexAddr 1 (.t 47) (.t 48), none, 65475, 0⟩,
                ⟨none, .store 1 (.t 63) (.t 58), none, 131011, 0⟩,
                ⟨(some 64), .indexAddr 1 (.t 49) (.t 52), none, 262143, 0⟩,
                ⟨none, .store 1 (.t 64) (.t 62), none, 524287, 0⟩] true))))
           (.region [⟨(some 34), .mov (.t 9), none, 0, 0⟩,
             ⟨(some 35), .bin .add (.t 34) (.c (.d (.sc (.int .i64 1)))), none, 0, 0⟩,
             ⟨(some 9), .mov (.t 35), none, 0, 0⟩] false))))))))
    .skip))), true⟩
/-- slices.choosePivotOrdered[int] -/
def t71 : AFn := ⟨3, 57, [.t 6, .t 7],
 (.seq
  (.region [⟨(some 6), .mov (.c (.d (.sc (.int .i64 0)))), none, 0, 0⟩,
    ⟨(some 7), .mov (.c (.d (.sc (.int .i64 0)))), none, 0, 0⟩] false)
  (.seq
   (.region [⟨(some 13), .mov (.t 2), none, 0, 0⟩,
     ⟨(some 14), .mov (.t 1), none, 0, 0⟩,
     ⟨(some 15), .bin .sub (.t 13) (.t 14), none, 0, 0⟩,
     ⟨(some 8), .mov (.t 15), none, 0, 0⟩] false)
   (.seq
    (.region [⟨(some 9), .alloc [(.d (.sc (.int .i64 0)))], none, 0, 0⟩] false)
    (.seq
     (.region [⟨(some 16), .mov (.t 1), none, 0, 0⟩,
       ⟨(some 17), .mov (.t 8), none, 0, 0⟩,
       ⟨(some 18), .bin .quo (.t 17) (.c (.d (.sc (.int .i64 4)))), none, 0, 0⟩,
       ⟨(some 19), .bin .mul (.t 18) (.c (.d (.sc (.int .i64 1)))), none, 0, 0⟩,
       ⟨(some 20), .bin .add (.t 16) (.t 19), none, 0, 0⟩,
       ⟨(some 10), .mov (.t 20), none, 0, 0⟩] false)
     (.seq
      (.region [⟨(some 21), .mov (.t 1), none, 0, 0⟩,
        ⟨(some 22), .mov (.t 8), none, 0, 0⟩,
        ⟨(some 23), .bin .quo (.t 22) (.c (.d (.sc (.int .i64 4)))), none, 0, 0⟩,
        ⟨(some 24), .bin .mul (.t 23) (.c (.d (.sc (.int .i64 2)))), none, 0, 0⟩,
        ⟨(some 25), .bin .add (.t 21) (.t 24), none, 0, 0⟩,
        ⟨(some 11), .mov (.t 25), none, 0, 0⟩] false)
      (.seq
       (.region [⟨(some 26), .mov (.t 1), none, 0, 0⟩,
         ⟨(some 27), .mov (.t 8), none, 0, 0⟩,
         ⟨(some 28), .bin .quo (.t 27) (.c (.d (.sc (.int .i64 4)))), none, 0, 0⟩,
         ⟨(some 29), .bin .mul (.t 28) (.c (.d (.sc (.int .i64 3)))), none, 0, 0⟩,
         ⟨(some 30), .bin .add (.t 26) (.t 29), none, 0, 0⟩,
         ⟨(some 12), .mov (.t 30), none, 0, 0⟩] false)
       (.seq
        (.seq
         (.region [⟨(some 31), .mov (.t 8), none, 0, 0⟩,
           ⟨(some 32), .bin .geq (.t 31) (.c (.d (.sc (.int .i64 8)))), none, 0, 0⟩] false)
         (.cond (.t 32)
          (.seq
           (.seq
            (.region [⟨(some 33), .mov (.t 8), none, 0, 0⟩,
              ⟨(some 34), .bin .geq (.t 33) (.c (.d (.sc (.int .i64 50)))), none, 0, 0⟩] false)
            (.cond (.t 34)
             (.seq
              (.region [⟨(some 35), .mov (.t 0), none, 0, 0⟩,
                ⟨(some 36), .mov (.t 10), none, 0, 0⟩,
                ⟨(some 37), .call 82 [(.t 35), (.t 36), (.t 9)], none, 0, 0⟩,
                ⟨(some 10), .mov (.t 37), none, 0, 0⟩] false)
              (.seq
               (.region [⟨(some 38), .mov (.t 0), none, 0, 0⟩,
                 ⟨(some 39), .mov (.t 11), none, 0, 0⟩,
                 ⟨(some 40), .call 82 [(.t 38), (.t 39), (.t 9)], none, 0, 0⟩,
                 ⟨(some 11), .mov (.t 40), none, 0, 0⟩] false)
               (.region [⟨(some 41), .mov (.t 0), none, 0, 0⟩,
                 ⟨(some 42), .mov (.t 12), none, 0, 0⟩,
                 ⟨(some 43), .call 82 [(.t 41), (.t 42), (.t 9)], none, 0, 0⟩,
                 ⟨(some 12), .mov (.t 43), none, 0, 0⟩] false)))
             .skip))
           (.region [⟨(some 44), .mov (.t 0), none, 0, 0⟩,
             ⟨(some 45), .mov (.t 10), none, 0, 0⟩,
             ⟨(some 46), .mov (.t 11), none, 0, 0⟩,
             ⟨(some 47), .mov (.t 12), none, 0, 0⟩,
             ⟨(some 48), .call 83 [(.t 44), (.t 45), (.t 46), (.t 47), (.t 9)], none, 0, 0⟩,
             ⟨(some 11), .mov (.t 48), none, 0, 0⟩] false))
          .skip))
        (.seq
         (.region [⟨(some 49), .load 1 false (.t 9), none, 0, 0⟩] false)
         (.block 0
          (.seq
           (.region [⟨(some 52), .bin .eql (.t 49) (.c (.d (.sc (.int .i64 0)))), none, 0, 0⟩,
             ⟨(some 51), .mov (.t 52), none, 0, 0⟩] false)
           (.cond (.t 51)
            (.seq
             (.region [⟨(some 53), .mov (.t 11), none, 0, 0⟩,
               ⟨(some 6), .mov (.t 53), none, 0, 0⟩,
               ⟨(some 7), .mov (.c (.d (.sc (.int .i64 1)))), none, 0, 0⟩] false)
             .ret)
            (.seq
             (.region [⟨(some 55), .bin .eql (.t 49) (.c (.d (.sc (.int .i64 12)))), none, 0, 0⟩,
               ⟨(some 54), .mov (.t 55), none, 0, 0⟩] false)
             (.cond (.t 54)
              (.seq
               (.region [⟨(some 56), .mov (.t 11), none, 0, 0⟩,
                 ⟨(some 6), .mov (.t 56), none, 0, 0⟩,
                 ⟨(some 7), .mov (.c (.d (.sc (.int .i64 2)))), none, 0, 0⟩] false)
               .ret)
              (.seq
               (.region [⟨(some 50), .mov (.t 11), none, 0, 0⟩,
                 ⟨(some 6), .mov (.t 50), none, 0, 0⟩,
                 ⟨(some 7), .mov (.c (.d (.sc (.int .i64 0)))), none, 0, 0⟩] false)
               .ret)))))))))))))), true⟩
/-- slices.reverseRangeOrdered[int] -/
def t72 : AFn := ⟨3, 32, [],
 (.seq
  (.region [⟨(some 8), .mov (.t 1), none, 0, 0⟩,
    ⟨(some 6), .mov (.t 8), none, 0, 0⟩] false)
  (.seq
   (.region [⟨(some 9), .mov (.t 2), none, 0, 0⟩,
     ⟨(some 10), .bin .sub (.t 9) (.c (.d (.sc (.int .i64 1)))), none, 0, 0⟩,
     ⟨(some 7), .mov (.t 10), none, 0, 0⟩] false)
   (.block 0
    (.loop
     (.seq
      (.seq
       (.region [⟨(some 11), .mov (.t 6), none, 0, 0⟩,
         ⟨(some 12), .mov (.t 7), none, 0, 0⟩,
         ⟨(some 13), .bin .lss (.t 11) (.t 12), none, 0, 0⟩] false)
       (.cond (.t 13)
        .skip
        (.exit 0)))
      (.block 1
       (.seq
        (.region [⟨(some 14), .mov (.t 0), none, 0, 0⟩,
          ⟨(some 15), .mov (.t 6), none, 0, 0⟩,
          ⟨(some 16), .mov (.t 0), none, 0, 0⟩,
          ⟨(some 17), .mov (.t 7), none, 0, 0⟩,
          ⟨(some 18), .mov (.t 0), none, 0, 0⟩,
          ⟨(some 19), .mov (.t 7), none, 0, 0⟩,
          ⟨(some 20), .indexAddr 1 (.t 18) (.t 19), none, 48, 0⟩,
          ⟨(some 21), .load 1 false (.t 20), none, 112, 0⟩,
          ⟨(some 22), .mov (.t 0), none, 0, 0⟩,
          ⟨(some 23), .mov (.t 6), none, 0, 0⟩,
          ⟨(some 24), .indexAddr 1 (.t 22) (.t 23), none, 768, 0⟩,
          ⟨(some 25), .load 1 false (.t 24), none, 1792, 0⟩,
          ⟨(some 26), .indexAddr 1 (.t 14) (.t 15), none, 4083, 0⟩,
          ⟨none, .store 1 (.t 26) (.t 21), none, 8179, 0⟩,
          ⟨(some 27), .indexAddr 1 (.t 16) (.t 17), none, 16383, 0⟩,
          ⟨none, .store 1 (.t 27) (.t 25), none, 32767, 0⟩] true)
        (.seq
         (.region [⟨(some 28), .mov (.t 6), none, 0, 0⟩,
           ⟨(some 29), .bin .add (.t 28) (.c (.d (.sc (.int .i64 1)))), none, 0, 0⟩,
           ⟨(some 6), .mov (.t 29), none, 0, 0⟩] false)
         (.region [⟨(some 30), .mov (.t 7), none, 0, 0⟩,
           ⟨(some 31), .bin .sub (.t 30) (.c (.d (.sc (.int .i64 1)))), none, 0, 0⟩,
           ⟨(some 7), .mov (.t 31), none, 0, 0⟩] false))))))))), true⟩
/-- slices.partialInsertionSortOrdered[int] -/
def t73 : AFn := ⟨3, 133, [.t 6],
 (.seq
  (.region [⟨(some 6), .mov (.c (.d (.sc (.bool false)))), none, 0, 0⟩] false)
  (.seq
   (.region [⟨(some 11), .mov (.t 1), none, 0, 0⟩,
     ⟨(some 12), .bin .add (.t 11) (.c (.d (.sc (.int .i64 1)))), none, 0, 0⟩,
     ⟨(some 7), .mov (.t 12), none, 0, 0⟩] false)
   (.seq
    (.seq
     (.region [⟨(some 8), .mov (.c (.d (.sc (.int .i64 0)))), none, 0, 0⟩] false)
     (.block 0
      (.loop
       (.seq
        (.seq
         (.region [⟨(some 13), .mov (.t 8), none, 0, 0⟩,
           ⟨(some 14), .bin .lss (.t 13) (.c (.d (.sc (.int .i64 5)))), none, 0, 0⟩] false)
         (.cond (.t 14)
          .skip
          (.exit 0)))
        (.seq
         (.block 1
          (.seq
           (.block 2
            (.loop
             (.seq
              (.seq
               (.region [⟨(some 17), .mov (.t 7), none, 0, 0⟩,
                 ⟨(some 18), .mov (.t 2), none, 0, 0⟩,
                 ⟨(some 19), .bin .lss (.t 17) (.t 18), none, 3, 0⟩,
                 ⟨(some 20), .mov (.t 19), none, 7, 0⟩,
                 ⟨(some 21), .mov (.t 0), (some (20, true)), 15, 0⟩,
                 ⟨(some 22), .mov (.t 7), (some (20, true)), 15, 0⟩,
                 ⟨(some 23), .indexAddr 1 (.t 21) (.t 22), (some (20, true)), 63, 0⟩,
                 ⟨(some 24), .load 1 false (.t 23), (some (20, true)), 127, 0⟩,
                 ⟨(some 25), .mov (.t 0), (some (20, true)), 15, 0⟩,
                 ⟨(some 26), .mov (.t 7), (some (20, true)), 15, 0⟩,
                 ⟨(some 27), .bin .sub (.t 26) (.c (.d (.sc (.int .i64 1)))), (some (20, true)), 527, 0⟩,
                 ⟨(some 28), .indexAddr 1 (.t 25) (.t 27), (some (20, true)), 1807, 0⟩,
                 ⟨(some 29), .load 1 false (.t 28), (some (20, true)), 3855, 0⟩,
                 ⟨(some 30), .call 74 [(.t 24), (.t 29)], (some (20, true)), 8191, 0⟩,
                 ⟨(some 31), .un .not (.t 30), (some (20, true)), 16383, 0⟩,
                 ⟨(some 32), .pick (.t 20) (.t 31) (.c (.d (.sc (.bool false)))), none, 32767, 0⟩] true)
               (.cond (.t 32)
                .skip
                (.exit 2)))
              (.block 3
               (.region [⟨(some 33), .mov (.t 7), none, 0, 0⟩,
                 ⟨(some 34), .bin .add (.t 33) (.c (.d (.sc (.int .i64 1)))), none, 0, 0⟩,
                 ⟨(some 7), .mov (.t 34), none, 0, 0⟩] false)))))
           (.seq
            (.seq
             (.region [⟨(some 35), .mov (.t 7), none, 0, 0⟩,
               ⟨(some 36), .mov (.t 2), none, 0, 0⟩,
               ⟨(some 37), .bin .eql (.t 35) (.t 36), none, 0, 0⟩] false)
             (.cond (.t 37)
              (.seq
               (.region [⟨(some 6), .mov (.c (.d (.sc (.bool true)))), none, 0, 0⟩] false)
               .ret)
              .skip))
            (.seq
             (.seq
              (.region [⟨(some 38), .mov (.t 2), none, 0, 0⟩,
                ⟨(some 39), .mov (.t 1), none, 0, 0⟩,
                ⟨(some 40), .bin .sub (.t 38) (.t 39), none, 0, 0⟩,
                ⟨(some 41), .bin .lss (.t 40) (.c (.d (.sc (.int .i64 50)))), none, 0, 0⟩] false)
              (.cond (.t 41)
               (.seq
                (.region [⟨(some 6), .mov (.c (.d (.sc (.bool false)))), none, 0, 0⟩] false)
                .ret)
               .skip))
             (.seq
              (.region [⟨(some 42), .mov (.t 0), none, 0, 0⟩,
                ⟨(some 43), .mov (.t 7), none, 0, 0⟩,
                ⟨(some 44), .mov (.t 0), none, 0, 0⟩,
                ⟨(some 45), .mov (.t 7), none, 0, 0⟩,
                ⟨(some 46), .bin .sub (.t 45) (.c (.d (.sc (.int .i64 1)))), none, 8, 0⟩,
                ⟨(some 47), .mov (.t 0), none, 0, 0⟩,
                ⟨(some 48), .mov (.t 7), none, 0, 0⟩,
                ⟨(some 49), .bin .sub (.t 48) (.c (.d (.sc (.int .i64 1)))), none, 64, 0⟩,
                ⟨(some 50), .indexAddr 1 (.t 47) (.t 49), none, 224, 0⟩,
                ⟨(some 51), .load 1 false (.t 50), none, 480, 0⟩,
                ⟨(some 52), .mov (.t 0), none, 0, 0⟩,
                ⟨(some 53), .mov (.t 7), none, 0, 0⟩,
                ⟨(some 54), .indexAddr 1 (.t 52) (.t 53), none, 3072, 0⟩,
                ⟨(some 55), .load 1 false (.t 54), none, 7168, 0⟩,
                ⟨(some 56), .indexAddr 1 (.t 42) (.t 43), none, 16355, 0⟩,
                ⟨none, .store 1 (.t 56) (.t 51), none, 32739, 0⟩,
                ⟨(some 57), .indexAddr 1 (.t 44) (.t 46), none, 65535, 0⟩,
                ⟨none, .store 1 (.t 57) (.t 55), none, 131071, 0⟩] true)
              (.seq
               (.seq
                (.region [⟨(some 58), .mov (.t 7), none, 0, 0⟩,
                  ⟨(some 59), .mov (.t 1), none, 0, 0⟩,
                  ⟨(some 60), .bin .sub (.t 58) (.t 59), none, 0, 0⟩,
                  ⟨(some 61), .bin .geq (.t 60) (.c (.d (.sc (.int .i64 2)))), none, 0, 0⟩] false)
                (.cond (.t 61)
                 (.seq
                  (.region [⟨(some 62), .mov (.t 7), none, 0, 0⟩,
                    ⟨(some 63), .bin .sub (.t 62) (.c (.d (.sc (.int .i64 1)))), none, 0, 0⟩,
                    ⟨(some 9), .mov (.t 63), none, 0, 0⟩] false)
                  (.block 4
                   (.loop
                    (.seq
                     (.seq
                      (.region [⟨(some 64), .mov (.t 9), none, 0, 0⟩,
                        ⟨(some 65), .bin .geq (.t 64) (.c (.d (.sc (.int .i64 1)))), none, 0, 0⟩] false)
                      (.cond (.t 65)
                       .skip
                       (.exit 4)))
                     (.seq
                      (.block 5
                       (.seq
                        (.seq
                         (.region [⟨(some 68), .mov (.t 0), none, 0, 0⟩,
                           ⟨(some 69), .mov (.t 9), none, 0, 0⟩,
                           ⟨(some 70), .indexAddr 1 (.t 68) (.t 69), none, 3, 0⟩,
                           ⟨(some 71), .load 1 false (.t 70), none, 7, 0⟩,
                           ⟨(some 72), .mov (.t 0), none, 0, 0⟩,
                           ⟨(some 73), .mov (.t 9), none, 0, 0⟩,
                           ⟨(some 74), .bin .sub (.t 73) (.c (.d (.sc (.int .i64 1)))), none, 32, 0⟩,
                           ⟨(some 75), .indexAddr 1 (.t 72) (.t 74), none, 112, 0⟩,
                           ⟨(some 76), .load 1 false (.t 75), none, 240, 0⟩,
                           ⟨(some 77), .call 74 [(.t 71), (.t 76)], none, 511, 0⟩,
                           ⟨(some 78), .un .not (.t 77), none, 1023, 0⟩] true)
                         (.cond (.t 78)
                          (.exit 4)
                          .skip))
                        (.region [⟨(some 79), .mov (.t 0), none, 0, 0⟩,
                          ⟨(some 80), .mov (.t 9), none, 0, 0⟩,
                          ⟨(some 81), .mov (.t 0), none, 0, 0⟩,
                          ⟨(some 82), .mov (.t 9), none, 0, 0⟩,
                          ⟨(some 83), .bin .sub (.t 82) (.c (.d (.sc (.int .i64 1)))), none, 8, 0⟩,
                          ⟨(some 84), .mov (.t 0), none, 0, 0⟩,
                          ⟨(some 85), .mov (.t 9), none, 0, 0⟩,
                          ⟨(some 86), .bin .sub (.t 85) (.c (.d (.sc (.int .i64 1)))), none, 64, 0⟩,
                          ⟨(some 87), .indexAddr 1 (.t 84) (.t 86), none, 224, 0⟩,
                          ⟨(some 88), .load 1 false (.t 87), none, 480, 0⟩,
                          ⟨(some 89), .mov (.t 0), none, 0, 0⟩,
                          ⟨(some 90), .mov (.t 9), none, 0, 0⟩,
                          ⟨(some 91), .indexAddr 1 (.t 89) (.t 90), none, 3072, 0⟩,
                          ⟨(some 92), .load 1 false (.t 91), none, 7168, 0⟩,
                          ⟨(some 93), .indexAddr 1 (.t 79) (.t 80), none, 16355, 0⟩,
                          ⟨none, .store 1 (.t 93) (.t 88), none, 32739, 0⟩,
                          ⟨(some 94), .indexAddr 1 (.t 81) (.t 83), none, 65535, 0⟩,
                          ⟨none, .store 1 (.t 94) (.t 92), none, 131071, 0⟩] true)))
                      (.region [⟨(some 66), .mov (.t 9), none, 0, 0⟩,
                        ⟨(some 67), .bin .sub (.t 66) (.c (.d (.sc (.int .i64 1)))), none, 0, 0⟩,
                        ⟨(some 9), .mov (.t 67), none, 0, 0⟩] false))))))
                 .skip))
               (.seq
                (.region [⟨(some 95), .mov (.t 2), none, 0, 0⟩,
                  ⟨(some 96), .mov (.t 7), none, 0, 0⟩,
                  ⟨(some 97), .bin .sub (.t 95) (.t 96), none, 0, 0⟩,
                  ⟨(some 98), .bin .geq (.t 97) (.c (.d (.sc (.int .i64 2)))), none, 0, 0⟩] false)
                (.cond (.t 98)
                 (.seq
                  (.region [⟨(some 99), .mov (.t 7), none, 0, 0⟩,
                    ⟨(some 100), .bin .add (.t 99) (.c (.d (.sc (.int .i64 1)))), none, 0, 0⟩,
                    ⟨(some 10), .mov (.t 100), none, 0, 0⟩] false)
                  (.block 6
                   (.loop
                    (.seq
                     (.seq
                      (.region [⟨(some 101), .mov (.t 10), none, 0, 0⟩,
                        ⟨(some 102), .mov (.t 2), none, 0, 0⟩,
                        ⟨(some 103), .bin .lss (.t 101) (.t 102), none, 0, 0⟩] false)
                      (.cond (.t 103)
                       .skip
                       (.exit 6)))
                     (.seq
                      (.block 7
                       (.seq
                        (.seq
                         (.region [⟨(some 106), .mov (.t 0), none, 0, 0⟩,
                           ⟨(some 107), .mov (.t 10), none, 0, 0⟩,
                           ⟨(some 108), .indexAddr 1 (.t 106) (.t 107), none, 3, 0⟩,
                           ⟨(some 109), .load 1 false (.t 108), none, 7, 0⟩,
                           ⟨(some 110), .mov (.t 0), none, 0, 0⟩,
                           ⟨(some 111), .mov (.t 10), none, 0, 0⟩,
                           ⟨(some 112), .bin .sub (.t 111) (.c (.d (.sc (.int .i64 1)))), none, 32, 0⟩,
                           ⟨(some 113), .indexAddr 1 (.t 110) (.t 112), none, 112, 0⟩,
                           ⟨(some 114), .load 1 false (.t 113), none, 240, 0⟩,
                           ⟨(some 115), .call 74 [(.t 109), (.t 114)], none, 511, 0⟩,
                           ⟨(some 116), .un .not (.t 115), none, 1023, 0⟩] true)
                         (.cond (.t 116)
                          (.exit 6)
                          .skip))
                        (.region [⟨(some 117), .mov (.t 0), none, 0, 0⟩,
                          ⟨(some 118), .mov (.t 10), none, 0, 0⟩,
                          ⟨(some 119), .mov (.t 0), none, 0, 0⟩,
                          ⟨(some 120), .mov (.t 10), none, 0, 0⟩,
                          ⟨(some 121), .bin .sub (.t 120) (.c (.d (.sc (.int .i64 1)))), none, 8, 0⟩,
                          ⟨(some 122), .mov (.t 0), none, 0, 0⟩,
                          ⟨(some 123), .mov (.t 10), none, 0, 0⟩,
                          ⟨(some 124), .bin .sub (.t 123) (.c (.d (.sc (.int .i64 1)))), none, 64, 0⟩,
                          ⟨(some 125), .indexAddr 1 (.t 122) (.t 124), none, 224, 0⟩,
                          ⟨(some 126), .load 1 false (.t 125), none, 480, 0⟩,
                          ⟨(some 127), .mov (.t 0), none, 0, 0⟩,
                          ⟨(some 128), .mov (.t 10), none, 0, 0⟩,
                          ⟨(some 129), .indexAddr 1 (.t 127) (.t 128), none, 3072, 0⟩,
                          ⟨(some 130), .load 1 false (.t 129), none, 7168, 0⟩,
                          ⟨(some 131), .indexAddr 1 (.t 117) (.t 118), none, 16355, 0⟩,
                          ⟨none, .store 1 (.t 131) (.t 126), none, 32739, 0⟩,
                          ⟨(some 132), .indexAddr 1 (.t 119) (.t 121), none, 65535, 0⟩,
                          ⟨none, .store 1 (.t 132) (.t 130), none, 131071, 0⟩] true)))
                      (.region [⟨(some 104), .mov (.t 10), none, 0, 0⟩,
                        ⟨(some 105), .bin .add (.t 104) (.c (.d (.sc (.int .i64 1)))), none, 0, 0⟩,
                        ⟨(some 10), .mov (.t 105), none, 0, 0⟩] false))))))
                 .skip))))))))
         (.region [⟨(some 15), .mov (.t 8), none, 0, 0⟩,
           ⟨(some 16), .bin .add (.t 15) (.c (.d (.sc (.int .i64 1)))), none, 0, 0⟩,
           ⟨(some 8), .mov (.t 16), none, 0, 0⟩] false))))))
    (.seq
     (.region [⟨(some 6), .mov (.c (.d (.sc (.bool false)))), none, 0, 0⟩] false)
     .ret)))), true⟩
/-- cmp.Less[int] -/
def t74 : AFn := ⟨2, 17, [.t 4],
 (.seq
  (.region [⟨(some 4), .mov (.c (.d (.sc (.bool false)))), none, 0, 0⟩] false)
  (.seq
   (.region [⟨(some 5), .mov (.t 0), none, 0, 0⟩,
     ⟨(some 6), .call 84 [(.t 5)], none, 0, 0⟩,
     ⟨(some 7), .mov (.t 6), none, 0, 0⟩,
     ⟨(some 8), .mov (.t 1), (some (7, true)), 0, 0⟩,
     ⟨(some 9), .call 84 [(.t 8)], (some (7, true)), 0, 0⟩,
     ⟨(some 10), .un .not (.t 9), (some (7, true)), 0, 0⟩,
     ⟨(some 11), .pick (.t 7) (.t 10) (.c (.d (.sc (.bool false)))), none, 0, 0⟩,
     ⟨(some 12), .mov (.t 11), none, 0, 0⟩,
     ⟨(some 13), .mov (.t 0), (some (12, false)), 0, 0⟩,
     ⟨(some 14), .mov (.t 1), (some (12, false)), 0, 0⟩,
     ⟨(some 15), .bin .lss (.t 13) (.t 14), (some (12, false)), 0, 0⟩,
     ⟨(some 16), .pick (.t 12) (.c (.d (.sc (.bool true)))) (.t 15), none, 0, 0⟩,
     ⟨(some 4), .mov (.t 16), none, 0, 0⟩] false)
   .ret)), false⟩
/-- slices.partitionEqualOrdered[int] -/
def t75 : AFn := ⟨4, 84, [.t 8],
 (.seq
  (.region [⟨(some 8), .mov (.c (.d (.sc (.int .i64 0)))), none, 0, 0⟩] false)
  (.seq
   (.region [⟨(some 11), .mov (.t 0), none, 0, 0⟩,
     ⟨(some 12), .mov (.t 1), none, 0, 0⟩,
     ⟨(some 13), .mov (.t 0), none, 0, 0⟩,
     ⟨(some 14), .mov (.t 3), none, 0, 0⟩,
     ⟨(some 15), .mov (.t 0), none, 0, 0⟩,
     ⟨(some 16), .mov (.t 3), none, 0, 0⟩,
     ⟨(some 17), .indexAddr 1 (.t 15) (.t 16), none, 48, 0⟩,
     ⟨(some 18), .load 1 false (.t 17), none, 112, 0⟩,
     ⟨(some 19), .mov (.t 0), none, 0, 0⟩,
     ⟨(some 20), .mov (.t 1), none, 0, 0⟩,
     ⟨(some 21), .indexAddr 1 (.t 19) (.t 20), none, 768, 0⟩,
     ⟨(some 22), .load 1 false (.t 21), none, 1792, 0⟩,
     ⟨(some 23), .indexAddr 1 (.t 11) (.t 12), none, 4083, 0⟩,
     ⟨none, .store 1 (.t 23) (.t 18), none, 8179, 0⟩,
     ⟨(some 24), .indexAddr 1 (.t 13) (.t 14), none, 16383, 0⟩,
     ⟨none, .store 1 (.t 24) (.t 22), none, 32767, 0⟩] true)
   (.seq
    (.region [⟨(some 25), .mov (.t 1), none, 0, 0⟩,
      ⟨(some 26), .bin .add (.t 25) (.c (.d (.sc (.int .i64 1)))), none, 0, 0⟩,
      ⟨(some 27), .mov (.t 2), none, 0, 0⟩,
      ⟨(some 28), .bin .sub (.t 27) (.c (.d (.sc (.int .i64 1)))), none, 0, 0⟩,
      ⟨(some 9), .mov (.t 26), none, 0, 0⟩,
      ⟨(some 10), .mov (.t 28), none, 0, 0⟩] false)
    (.seq
     (.block 0
      (.loop
       (.block 1
        (.seq
         (.block 2
          (.loop
           (.seq
            (.seq
             (.region [⟨(some 29), .mov (.t 9), none, 0, 0⟩,
               ⟨(some 30), .mov (.t 10), none, 0, 0⟩,
               ⟨(some 31), .bin .leq (.t 29) (.t 30), none, 3, 0⟩,
               ⟨(some 32), .mov (.t 31), none, 7, 0⟩,
               ⟨(some 33), .mov (.t 0), (some (32, true)), 15, 0⟩,
               ⟨(some 34), .mov (.t 1), (some (32, true)), 15, 0⟩,
               ⟨(some 35), .indexAddr 1 (.t 33) (.t 34), (some (32, true)), 63, 0⟩,
               ⟨(some 36), .load 1 false (.t 35), (some (32, true)), 127, 0⟩,
               ⟨(some 37), .mov (.t 0), (some (32, true)), 15, 0⟩,
               ⟨(some 38), .mov (.t 9), (some (32, true)), 15, 0⟩,
               ⟨(some 39), .indexAddr 1 (.t 37) (.t 38), (some (32, true)), 783, 0⟩,
               ⟨(some 40), .load 1 false (.t 39), (some (32, true)), 1807, 0⟩,
               ⟨(some 41), .call 74 [(.t 36), (.t 40)], (some (32, true)), 4095, 0⟩,
               ⟨(some 42), .un .not (.t 41), (some (32, true)), 8191, 0⟩,
               ⟨(some 43), .pick (.t 32) (.t 42) (.c (.d (.sc (.bool false)))), none, 16383, 0⟩] true)
             (.cond (.t 43)
              .skip
              (.exit 2)))
            (.block 3
             (.region [⟨(some 44), .mov (.t 9), none, 0, 0⟩,
               ⟨(some 45), .bin .add (.t 44) (.c (.d (.sc (.int .i64 1)))), none, 0, 0⟩,
               ⟨(some 9), .mov (.t 45), none, 0, 0⟩] false)))))
         (.seq
          (.block 4
           (.loop
            (.seq
             (.seq
              (.region [⟨(some 46), .mov (.t 9), none, 0, 0⟩,
                ⟨(some 47), .mov (.t 10), none, 0, 0⟩,
                ⟨(some 48), .bin .leq (.t 46) (.t 47), none, 3, 0⟩,
                ⟨(some 49), .mov (.t 48), none, 7, 0⟩,
                ⟨(some 50), .mov (.t 0), (some (49, true)), 15, 0⟩,
                ⟨(some 51), .mov (.t 1), (some (49, true)), 15, 0⟩,
                ⟨(some 52), .indexAddr 1 (.t 50) (.t 51), (some (49, true)), 63, 0⟩,
                ⟨(some 53), .load 1 false (.t 52), (some (49, true)), 127, 0⟩,
                ⟨(some 54), .mov (.t 0), (some (49, true)), 15, 0⟩,
                ⟨(some 55), .mov (.t 10), (some (49, true)), 15, 0⟩,
                ⟨(some 56), .indexAddr 1 (.t 54) (.t 55), (some (49, true)), 783, 0⟩,
                ⟨(some 57), .load 1 false (.t 56), (some (49, true)), 1807, 0⟩,
                ⟨(some 58), .call 74 [(.t 53), (.t 57)], (some (49, true)), 4095, 0⟩,
                ⟨(some 59), .pick (.t 49) (.t 58) (.c (.d (.sc (.bool false)))), none, 8191, 0⟩] true)
              (.cond (.t 59)
               .skip
               (.exit 4)))
             (.block 5
              (.region [⟨(some 60), .mov (.t 10), none, 0, 0⟩,
                ⟨(some 61), .bin .sub (.t 60) (.c (.d (.sc (.int .i64 1)))), none, 0, 0⟩,
                ⟨(some 10), .mov (.t 61), none, 0, 0⟩] false)))))
          (.seq
           (.seq
            (.region [⟨(some 62), .mov (.t 9), none, 0, 0⟩,
              ⟨(some 63), .mov (.t 10), none, 0, 0⟩,
              ⟨(some 64), .bin .gtr (.t 62) (.t 63), none, 0, 0⟩] false)
            (.cond (.t 64)
             (.exit 0)
             .skip))
           (.seq
            (.region [⟨(some 65), .mov (.t 0), none, 0, 0⟩,
              ⟨(some 66), .mov (.t 9), none, 0, 0⟩,
              ⟨(some 67), .mov (.t 0), none, 0, 0⟩,
              ⟨(some 68), .mov (.t 10), none, 0, 0⟩,
              ⟨(some 69), .mov (.t 0), none, 0, 0⟩,
              ⟨(some 70), .mov (.t 10), none, 0, 0⟩,
              ⟨(some 71), .indexAddr 1 (.t 69) (.t 70), none, 48, 0⟩,
              ⟨(some 72), .load 1 false (.t 71), none, 112, 0⟩,
              ⟨(some 73), .mov (.t 0), none, 0, 0⟩,
              ⟨(some 74), .mov (.t 9), none, 0, 0⟩,
              ⟨(some 75), .indexAddr 1 (.t 73) (.t 74), none, 768, 0⟩,
              ⟨(some 76), .load 1 false (.t 75), none, 1792, 0⟩,
              ⟨(some 77), .indexAddr 1 (.t 65) (.t 66), none, 4083, 0⟩,
              ⟨none, .store 1 (.t 77) (.t 72), none, 8179, 0⟩,
              ⟨(some 78), .indexAddr 1 (.t 67) (.t 68), none, 16383, 0⟩,
              ⟨none, .store 1 (.t 78) (.t 76), none, 32767, 0⟩] true)
            (.seq
             (.region [⟨(some 79), .mov (.t 9), none, 0, 0⟩,
               ⟨(some 80), .bin .add (.t 79) (.c (.d (.sc (.int .i64 1)))), none, 0, 0⟩,
               ⟨(some 9), .mov (.t 80), none, 0, 0⟩] false)
             (.region [⟨(some 81), .mov (.t 10), none, 0, 0⟩,
               ⟨(some 82), .bin .sub (.t 81) (.c (.d (.sc (.int .i64 1)))), none, 0, 0⟩,
               ⟨(some 10), .mov (.t 82), none, 0, 0⟩] false)))))))))
     (.seq
      (.region [⟨(some 83), .mov (.t 9), none, 0, 0⟩,
        ⟨(some 8), .mov (.t 83), none, 0, 0⟩] false)
      .ret))))), true⟩
/-- slices.partitionOrdered[int] -/
def t76 : AFn := ⟨4, 168, [.t 8, .t 9],
 (.seq
  (.region [⟨(some 8), .mov (.c (.d (.sc (.int .i64 0)))), none, 0, 0⟩,
    ⟨(some 9), .mov (.c (.d (.sc (.bool false)))), none, 0, 0⟩] false)
  (.seq
   (.region [⟨(some 12), .mov (.t 0), none, 0, 0⟩,
     ⟨(some 13), .mov (.t 1), none, 0, 0⟩,
     ⟨(some 14), .mov (.t 0), none, 0, 0⟩,
     ⟨(some 15), .mov (.t 3), none, 0, 0⟩,
     ⟨(some 16), .mov (.t 0), none, 0, 0⟩,
     ⟨(some 17), .mov (.t 3), none, 0, 0⟩,
     ⟨(some 18), .indexAddr 1 (.t 16) (.t 17), none, 48, 0⟩,
     ⟨(some 19), .load 1 false (.t 18), none, 112, 0⟩,
     ⟨(some 20), .mov (.t 0), none, 0, 0⟩,
     ⟨(some 21), .mov (.t 1), none, 0, 0⟩,
     ⟨(some 22), .indexAddr 1 (.t 20) (.t 21), none, 768, 0⟩,
     ⟨(some 23), .load 1 false (.t 22), none, 1792, 0⟩,
     ⟨(some 24), .indexAddr 1 (.t 12) (.t 13), none, 4083, 0⟩,
     ⟨none, .store 1 (.t 24) (.t 19), none, 8179, 0⟩,
     ⟨(some 25), .indexAddr 1 (.t 14) (.t 15), none, 16383, 0⟩,
     ⟨none, .store 1 (.t 25) (.t 23), none, 32767, 0⟩] true)
   (.seq
    (.region [⟨(some 26), .mov (.t 1), none, 0, 0⟩,
      ⟨(some 27), .bin .add (.t 26) (.c (.d (.sc (.int .i64 1)))), none, 0, 0⟩,
      ⟨(some 28), .mov (.t 2), none, 0, 0⟩,
      ⟨(some 29), .bin .sub (.t 28) (.c (.d (.sc (.int .i64 1)))), none, 0, 0⟩,
      ⟨(some 10), .mov (.t 27), none, 0, 0⟩,
      ⟨(some 11), .mov (.t 29), none, 0, 0⟩] false)
    (.seq
     (.block 0
      (.loop
       (.seq
        (.seq
         (.region [⟨(some 30), .mov (.t 10), none, 0, 0⟩,
           ⟨(some 31), .mov (.t 11), none, 0, 0⟩,
           ⟨(some 32), .bin .leq (.t 30) (.t 31), none, 3, 0⟩,
           ⟨(some 33), .mov (.t 32), none, 7, 0⟩,
           ⟨(some 34), .mov (.t 0), (some (33, true)), 15, 0⟩,
           ⟨(some 35), .mov (.t 10), (some (33, true)), 15, 0⟩,
           ⟨(some 36), .indexAddr 1 (.t 34) (.t 35), (some (33, true)), 63, 0⟩,
           ⟨(some 37), .load 1 false (.t 36), (some (33, true)), 127, 0⟩,
           ⟨(some 38), .mov (.t 0), (some (33, true)), 15, 0⟩,
           ⟨(some 39), .mov (.t 1), (some (33, true)), 15, 0⟩,
           ⟨(some 40), .indexAddr 1 (.t 38) (.t 39), (some (33, true)), 783, 0⟩,
           ⟨(some 41), .load 1 false (.t 40), (some (33, true)), 1807, 0⟩,
           ⟨(some 42), .call 74 [(.t 37), (.t 41)], (some (33, true)), 4095, 0⟩,
           ⟨(some 43), .pick (.t 33) (.t 42) (.c (.d (.sc (.bool false)))), none, 8191, 0⟩] true)
         (.cond (.t 43)
          .skip
          (.exit 0)))
        (.block 1
         (.region [⟨(some 44), .mov (.t 10), none, 0, 0⟩,
           ⟨(some 45), .bin .add (.t 44) (.c (.d (.sc (.int .i64 1)))), none, 0, 0⟩,
           ⟨(some 10), .mov (.t 45), none, 0, 0⟩] false)))))
     (.seq
      (.block 2
       (.loop
        (.seq
         (.seq
          (.region [⟨(some 46), .mov (.t 10), none, 0, 0⟩,
            ⟨(some 47), .mov (.t 11), none, 0, 0⟩,
            ⟨(some 48), .bin .leq (.t 46) (.t 47), none, 3, 0⟩,
            ⟨(some 49), .mov (.t 48), none, 7, 0⟩,
            ⟨(some 50), .mov (.t 0), (some (49, true)), 15, 0⟩,
            ⟨(some 51), .mov (.t 11), (some (49, true)), 15, 0⟩,
            ⟨(some 52), .indexAddr 1 (.t 50) (.t 51), (some (49, true)), 63, 0⟩,
            ⟨(some 53), .load 1 false (.t 52), (some (49, true)), 127, 0⟩,
            ⟨(some 54), .mov (.t 0), (some (49, true)), 15, 0⟩,
            ⟨(some 55), .mov (.t 1), (some (49, true)), 15, 0⟩,
            ⟨(some 56), .indexAddr 1 (.t 54) (.t 55), (some (49, true)), 783, 0⟩,
            ⟨(some 57), .load 1 false (.t 56), (some (49, true)), 1807, 0⟩,
            ⟨(some 58), .call 74 [(.t 53), (.t 57)], (some (49, true)), 4095, 0⟩,
            ⟨(some 59), .un .not (.t 58), (some (49, true)), 8191, 0⟩,
            ⟨(some 60), .pick (.t 49) (.t 59) (.c (.d (.sc (.bool false)))), none, 16383, 0⟩] true)
          (.cond (.t 60)
           .skip
           (.exit 2)))
         (.block 3
          (.region [⟨(some 61), .mov (.t 11), none, 0, 0⟩,
            ⟨(some 62), .bin .sub (.t 61) (.c (.d (.sc (.int .i64 1)))), none, 0, 0⟩,
            ⟨(some 11), .mov (.t 62), none, 0, 0⟩] false)))))
      (.seq
       (.seq
        (.region [⟨(some 63), .mov (.t 10), none, 0, 0⟩,
          ⟨(some 64), .mov (.t 11), none, 0, 0⟩,
          ⟨(some 65), .bin .gtr (.t 63) (.t 64), none, 0, 0⟩] false)
        (.cond (.t 65)
         (.seq
          (.region [⟨(some 66), .mov (.t 0), none, 0, 0⟩,
            ⟨(some 67), .mov (.t 11), none, 0, 0⟩,
            ⟨(some 68), .mov (.t 0), none, 0, 0⟩,
            ⟨(some 69), .mov (.t 1), none, 0, 0⟩,
            ⟨(some 70), .mov (.t 0), none, 0, 0⟩,
            ⟨(some 71), .mov (.t 1), none, 0, 0⟩,
            ⟨(some 72), .indexAddr 1 (.t 70) (.t 71), none, 48, 0⟩,
            ⟨(some 73), .load 1 false (.t 72), none, 112, 0⟩,
            ⟨(some 74), .mov (.t 0), none, 0, 0⟩,
            ⟨(some 75), .mov (.t 11), none, 0, 0⟩,
            ⟨(some 76), .indexAddr 1 (.t 74) (.t 75), none, 768, 0⟩,
            ⟨(some 77), .load 1 false (.t 76), none, 1792, 0⟩,
            ⟨(some 78), .indexAddr 1 (.t 66) (.t 67), none, 4083, 0⟩,
            ⟨none, .store 1 (.t 78) (.t 73), none, 8179, 0⟩,
            ⟨(some 79), .indexAddr 1 (.t 68) (.t 69), none, 16383, 0⟩,
            ⟨none, .store 1 (.t 79) (.t 77), none, 32767, 0⟩] true)
          (.seq
           (.region [⟨(some 80), .mov (.t 11), none, 0, 0⟩,
             ⟨(some 8), .mov (.t 80), none, 0, 0⟩,
             ⟨(some 9), .mov (.c (.d (.sc (.bool true)))), none, 0, 0⟩] false)
           .ret))
         .skip))
       (.seq
        (.region [⟨(some 81), .mov (.t 0), none, 0, 0⟩,
          ⟨(some 82), .mov (.t 10), none, 0, 0⟩,
          ⟨(some 83), .mov (.t 0), none, 0, 0⟩,
          ⟨(some 84), .mov (.t 11), none, 0, 0⟩,
          ⟨(some 85), .mov (.t 0), none, 0, 0⟩,
          ⟨(some 86), .mov (.t 11), none, 0, 0⟩,
          ⟨(some 87), .indexAddr 1 (.t 85) (.t 86), none, 48, 0⟩,
          ⟨(some 88), .load 1 false (.t 87), none, 112, 0⟩,
          ⟨(some 89), .mov (.t 0), none, 0, 0⟩,
          ⟨(some 90), .mov (.t 10), none, 0, 0⟩,
          ⟨(some 91), .indexAddr 1 (.t 89) (.t 90), none, 768, 0⟩,
          ⟨(some 92), .load 1 false (.t 91), none, 1792, 0⟩,
          ⟨(some 93), .indexAddr 1 (.t 81) (.t 82), none, 4083, 0⟩,
          ⟨none, .store 1 (.t 93) (.t 88), none, 8179, 0⟩,
          ⟨(some 94), .indexAddr 1 (.t 83) (.t 84), none, 16383, 0⟩,
          ⟨none, .store 1 (.t 94) (.t 92), none, 32767, 0⟩] true)
        (.seq
         (.region [⟨(some 95), .mov (.t 10), none, 0, 0⟩,
           ⟨(some 96), .bin .add (.t 95) (.c (.d (.sc (.int .i64 1)))), none, 0, 0⟩,
           ⟨(some 10), .mov (.t 96), none, 0, 0⟩] false)
         (.seq
          (.region [⟨(some 97), .mov (.t 11), none, 0, 0⟩,
            ⟨(some 98), .bin .sub (.t 97) (.c (.d (.sc (.int .i64 1)))), none, 0, 0⟩,
            ⟨(some 11), .mov (.t 98), none, 0, 0⟩] false)
          (.seq
           (.block 4
            (.loop
             (.block 5
              (.seq
               (.block 6
                (.loop
                 (.seq
                  (.seq
                   (.region [⟨(some 99), .mov (.t 10), none, 0, 0⟩,
                     ⟨(some 100), .mov (.t 11), none, 0, 0⟩,
                     ⟨(some 101), .bin .leq (.t 99) (.t 100), none, 3, 0⟩,
                     ⟨(some 102), .mov (.t 101), none, 7, 0⟩,
                     ⟨(some 103), .mov (.t 0), (some (102, true)), 15, 0⟩,
                     ⟨(some 104), .mov (.t 10), (some (102, true)), 15, 0⟩,
                     ⟨(some 105), .indexAddr 1 (.t 103) (.t 104), (some (102, true)), 63, 0⟩,
                     ⟨(some 106), .load 1 false (.t 105), (some (102, true)), 127, 0⟩,
                     ⟨(some 107), .mov (.t 0), (some (102, true)), 15, 0⟩,
                     ⟨(some 108), .mov (.t 1), (some (102, true)), 15, 0⟩,
                     ⟨(some 109), .indexAddr 1 (.t 107) (.t 108), (some (102, true)), 783, 0⟩,
                     ⟨(some 110), .load 1 false (.t 109), (some (102, true)), 1807, 0⟩,
                     ⟨(some 111), .call 74 [(.t 106), (.t 110)], (some (102, true)), 4095, 0⟩,
                     ⟨(some 112), .pick (.t 102) (.t 111) (.c (.d (.sc (.bool false)))), none, 8191, 0⟩] true)
                   (.cond (.t 112)
                    .skip
                    (.exit 6)))
                  (.block 7
                   (.region [⟨(some 113), .mov (.t 10), none, 0, 0⟩,
                     ⟨(some 114), .bin .add (.t 113) (.c (.d (.sc (.int .i64 1)))), none, 0, 0⟩,
                     ⟨(some 10), .mov (.t 114), none, 0, 0⟩] false)))))
               (.seq
                (.block 8
                 (.loop
                  (.seq
                   (.seq
                    (.region [⟨(some 115), .mov (.t 10), none, 0, 0⟩,
                      ⟨(some 116), .mov (.t 11), none, 0, 0⟩,
                      ⟨(some 117), .bin .leq (.t 115) (.t 116), none, 3, 0⟩,
                      ⟨(some 118), .mov (.t 117), none, 7, 0⟩,
                      ⟨(some 119), .mov (.t 0), (some (118, true)), 15, 0⟩,
                      ⟨(some 120), .mov (.t 11), (some (118, true)), 15, 0⟩,
                      ⟨(some 121), .indexAddr 1 (.t 119) (.t 120), (some (118, true)), 63, 0⟩,
                      ⟨(some 122), .load 1 false (.t 121), (some (118, true)), 127, 0⟩,
                      ⟨(some 123), .mov (.t 0), (some (118, true)), 15, 0⟩,
                      ⟨(some 124), .mov (.t 1), (some (118, true)), 15, 0⟩,
                      ⟨(some 125), .indexAddr 1 (.t 123) (.t 124), (some (118, true)), 783, 0⟩,
                      ⟨(some 126), .load 1 false (.t 125), (some (118, true)), 1807, 0⟩,
                      ⟨(some 127), .call 74 [(.t 122), (.t 126)], (some (118, true)), 4095, 0⟩,
                      ⟨(some 128), .un .not (.t 127), (some (118, true)), 8191, 0⟩,
                      ⟨(some 129), .pick (.t 118) (.t 128) (.c (.d (.sc (.bool false)))), none, 16383, 0⟩] true)
                    (.cond (.t 129)
                     .skip
                     (.exit 8)))
                   (.block 9
                    (.region [⟨(some 130), .mov (.t 11), none, 0, 0⟩,
                      ⟨(some 131), .bin .sub (.t 130) (.c (.d (.sc (.int .i64 1)))), none, 0, 0⟩,
                      ⟨(some 11), .mov (.t 131), none, 0, 0⟩] false)))))
                (.seq
                 (.seq
                  (.region [⟨(some 132), .mov (.t 10), none, 0, 0⟩,
                    ⟨(some 133), .mov (.t 11), none, 0, 0⟩,
                    ⟨(some 134), .bin .gtr (.t 132) (.t 133), none, 0, 0⟩] false)
                  (.cond (.t 134)
                   (.exit 4)
                   .skip))
                 (.seq
                  (.region [⟨(some 135), .mov (.t 0), none, 0, 0⟩,
                    ⟨(some 136), .mov (.t 10), none, 0, 0⟩,
                    ⟨(some 137), .mov (.t 0), none, 0, 0⟩,
                    ⟨(some 138), .mov (.t 11), none, 0, 0⟩,
                    ⟨(some 139), .mov (.t 0), none, 0, 0⟩,
                    ⟨(some 140), .mov (.t 11), none, 0, 0⟩,
                    ⟨(some 141), .indexAddr 1 (.t 139) (.t 140), none, 48, 0⟩,
                    ⟨(some 142), .load 1 false (.t 141), none, 112, 0⟩,
                    ⟨(some 143), .mov (.t 0), none, 0, 0⟩,
                    ⟨(some 144), .mov (.t 10), none, 0, 0⟩,
                    ⟨(some 145), .indexAddr 1 (.t 143) (.t 144), none, 768, 0⟩,
                    ⟨(some 146), .load 1 false (.t 145), none, 1792, 0⟩,
                    ⟨(some 147), .indexAddr 1 (.t 135) (.t 136), none, 4083, 0⟩,
                    ⟨none, .store 1 (.t 147) (.t 142), none, 8179, 0⟩,
                    ⟨(some 148), .indexAddr 1 (.t 137) (.t 138), none, 16383, 0⟩,
                    ⟨none, .store 1 (.t 148) (.t 146), none, 32767, 0⟩] true)
                  (.seq
                   (.region [⟨(some 149), .mov (.t 10), none, 0, 0⟩,
                     ⟨(some 150), .bin .add (.t 149) (.c (.d (.sc (.int .i64 1)))), none, 0, 0⟩,
                     ⟨(some 10), .mov (.t 150), none, 0, 0⟩] false)
                   (.region [⟨(some 151), .mov (.t 11), none, 0, 0⟩,
                     ⟨(some 152), .bin .sub (.t 151) (.c (.d (.sc (.int .i64 1)))), none, 0, 0⟩,
                     ⟨(some 11), .mov (.t 152), none, 0, 0⟩] false)))))))))
           (.seq
            (.region [⟨(some 153), .mov (.t 0), none, 0, 0⟩,
              ⟨(some 154), .mov (.t 11), none, 0, 0⟩,
              ⟨(some 155), .mov (.t 0), none, 0, 0⟩,
              ⟨(some 156), .mov (.t 1), none, 0, 0⟩,
              ⟨(some 157), .mov (.t 0), none, 0, 0⟩,
              ⟨(some 158), .mov (.t 1), none, 0, 0⟩,
              ⟨(some 159), .indexAddr 1 (.t 157) (.t 158), none, 48, 0⟩,
              ⟨(some 160), .load 1 false (.t 159), none, 112, 0⟩,
              ⟨(some 161), .mov (.t 0), none, 0, 0⟩,
              ⟨(some 162), .mov (.t 11), none, 0, 0⟩,
              ⟨(some 163), .indexAddr 1 (.t 161) (.t 162), none, 768, 0⟩,
              ⟨(some 164), .load 1 false (.t 163), none, 1792, 0⟩,
              ⟨(some 165), .indexAddr 1 (.t 153) (.t 154), none, 4083, 0⟩,
              ⟨none, .store 1 (.t 165) (.t 160), none, 8179, 0⟩,
              ⟨(some 166), .indexAddr 1 (.t 155) (.t 156), none, 16383, 0⟩,
              ⟨none, .store 1 (.t 166) (.t 164), none, 32767, 0⟩] true)
            (.seq
             (.region [⟨(some 167), .mov (.t 11), none, 0, 0⟩,
               ⟨(some 8), .mov (.t 167), none, 0, 0⟩,
               ⟨(some 9), .mov (.c (.d (.sc (.bool false)))), none, 0, 0⟩] false)
             .ret)))))))))))), true⟩
/-- math/bits.Len32 -/
def t77 : AFn := ⟨1, 19, [.t 2],
 (.seq
  (.region [⟨(some 2), .mov (.c (.d (.sc (.int .i64 0)))), none, 0, 0⟩] false)
  (.seq
   (.seq
    (.region [⟨(some 3), .mov (.t 0), none, 0, 0⟩,
      ⟨(some 4), .bin .geq (.t 3) (.c (.d (.sc (.int .u32 65536)))), none, 0, 0⟩] false)
    (.cond (.t 4)
     (.seq
      (.region [⟨(some 5), .mov (.t 0), none, 0, 0⟩,
        ⟨(some 6), .bin .shr (.t 5) (.c (.d (.sc (.int .u64 16)))), none, 0, 0⟩,
        ⟨(some 0), .mov (.t 6), none, 0, 0⟩] false)
      (.region [⟨(some 2), .mov (.c (.d (.sc (.int .i64 16)))), none, 0, 0⟩] false))
     .skip))
   (.seq
    (.seq
     (.region [⟨(some 7), .mov (.t 0), none, 0, 0⟩,
       ⟨(some 8), .bin .geq (.t 7) (.c (.d (.sc (.int .u32 256)))), none, 0, 0⟩] false)
     (.cond (.t 8)
      (.seq
       (.region [⟨(some 9), .mov (.t 0), none, 0, 0⟩,
         ⟨(some 10), .bin .shr (.t 9) (.c (.d (.sc (.int .u64 8)))), none, 0, 0⟩,
         ⟨(some 0), .mov (.t 10), none, 0, 0⟩] false)
       (.region [⟨(some 11), .mov (.t 2), none, 0, 0⟩,
         ⟨(some 12), .bin .add (.t 11) (.c (.d (.sc (.int .i64 8)))), none, 0, 0⟩,
         ⟨(some 2), .mov (.t 12), none, 0, 0⟩] false))
      .skip))
    (.seq
     (.region [⟨(some 13), .mov (.t 2), none, 0, 0⟩,
       ⟨(some 14), .mov (.t 0), none, 0, 0⟩,
       ⟨(some 15), .conv .u8 (.t 14), none, 0, 0⟩,
       ⟨(some 16), .indexS (.c (.d (.sc (.string ⟨#[0, 1, 2, 2, 3, 3, 3, 3, 4, 4, 4, 4, 4, 4, 4, 4, 5, 5, 5, 5, 5, 5, 5, 5, 5, 5, 5, 5, 5, 5, 5, 5, 6, 6, 6, 6, 6, 6, 6, 6, 6, 6, 6, 6, 6, 6, 6, 6, 6, 6, 6, 6, 6, 6, 6, 6, 6, 6, 6, 6, 6, 6, 6, 6, 7, 7, 7, 7, 7, 7, 7, 7, 7, 7, 7, 7, 7, 7, 7, 7, 7, 7, 7, 7, 7, 7, 7, 7, 7, 7, 7, 7, 7, 7, 7, 7, 7, 7, 7, 7, 7, 7, 7, 7, 7, 7, 7, 7, 7, 7, 7, 7, 7, 7, 7, 7, 7, 7, 7, 7, 7, 7, 7, 7, 7, 7, 7, 7, 8, 8, 8, 8, 8, 8, 8, 8, 8, 8, 8, 8, 8, 8, 8, 8, 8, 8, 8, 8, 8, 8, 8, 8, 8, 8, 8, 8, 8, 8, 8, 8, 8, 8, 8, 8, 8, 8, 8, 8, 8, 8, 8, 8, 8, 8, 8, 8, 8, 8, 8, 8, 8, 8, 8, 8, 8, 8, 8, 8, 8, 8, 8, 8, 8, 8, 8, 8, 8, 8, 8, 8, 8, 8, 8, 8, 8, 8, 8, 8, 8, 8, 8, 8, 8, 8, 8, 8, 8, 8, 8, 8, 8, 8, 8, 8, 8, 8, 8, 8, 8, 8, 8, 8, 8, 8, 8, 8, 8, 8, 8, 8, 8, 8, 8, 8, 8, 8, 8, 8, 8, 8, 8, 8, 8, 8, 8, 8]⟩)))) (.t 15), none, 0, 0⟩,
       ⟨(some 17), .conv .i64 (.t 16), none, 0, 0⟩,
       ⟨(some 18), .bin .add (.t 13) (.t 17), none, 0, 0⟩,
       ⟨(some 2), .mov (.t 18), none, 0, 0⟩] false)
     .ret)))), false⟩
/-- math/bits.Len64 -/
def t78 : AFn := ⟨1, 25, [.t 2],
 (.seq
  (.region [⟨(some 2), .mov (.c (.d (.sc (.int .i64 0)))), none, 0, 0⟩] false)
  (.seq
   (.seq
    (.region [⟨(some 3), .mov (.t 0), none, 0, 0⟩,
      ⟨(some 4), .bin .geq (.t 3) (.c (.d (.sc (.int .u64 4294967296)))), none, 0, 0⟩] false)
    (.cond (.t 4)
     (.seq
      (.region [⟨(some 5), .mov (.t 0), none, 0, 0⟩,
        ⟨(some 6), .bin .shr (.t 5) (.c (.d (.sc (.int .u64 32)))), none, 0, 0⟩,
        ⟨(some 0), .mov (.t 6), none, 0, 0⟩] false)
      (.region [⟨(some 2), .mov (.c (.d (.sc (.int .i64 32)))), none, 0, 0⟩] false))
     .skip))
   (.seq
    (.seq
     (.region [⟨(some 7), .mov (.t 0), none, 0, 0⟩,
       ⟨(some 8), .bin .geq (.t 7) (.c (.d (.sc (.int .u64 65536)))), none, 0, 0⟩] false)
     (.cond (.t 8)
      (.seq
       (.region [⟨(some 9), .mov (.t 0), none, 0, 0⟩,
         ⟨(some 10), .bin .shr (.t 9) (.c (.d (.sc (.int .u64 16)))), none, 0, 0⟩,
         ⟨(some 0), .mov (.t 10), none, 0, 0⟩] false)
       (.region [⟨(some 11), .mov (.t 2), none, 0, 0⟩,
         ⟨(some 12), .bin .add (.t 11) (.c (.d (.sc (.int .i64 16)))), none, 0, 0⟩,
         ⟨(some 2), .mov (.t 12), none, 0, 0⟩] false))
      .skip))
    (.seq
     (.seq
      (.region [⟨(some 13), .mov (.t 0), none, 0, 0⟩,
        ⟨(some 14), .bin .geq (.t 13) (.c (.d (.sc (.int .u64 256)))), none, 0, 0⟩] false)
      (.cond (.t 14)
       (.seq
        (.region [⟨(some 15), .mov (.t 0), none, 0, 0⟩,
          ⟨(some 16), .bin .shr (.t 15) (.c (.d (.sc (.int .u64 8)))), none, 0, 0⟩,
          ⟨(some 0), .mov (.t 16), none, 0, 0⟩] false)
        (.region [⟨(some 17), .mov (.t 2), none, 0, 0⟩,
          ⟨(some 18), .bin .add (.t 17) (.c (.d (.sc (.int .i64 8)))), none, 0, 0⟩,
          ⟨(some 2), .mov (.t 18), none, 0, 0⟩] false))
       .skip))
     (.seq
      (.region [⟨(some 19), .mov (.t 2), none, 0, 0⟩,
        ⟨(some 20), .mov (.t 0), none, 0, 0⟩,
        ⟨(some 21), .conv .u8 (.t 20), none, 0, 0⟩,
        ⟨(some 22), .indexS (.c (.d (.sc (.string ⟨#[0, 1, 2, 2, 3, 3, 3, 3, 4, 4, 4, 4, 4, 4, 4, 4, 5, 5, 5, 5, 5, 5, 5, 5, 5, 5, 5, 5, 5, 5, 5, 5, 6, 6, 6, 6, 6, 6, 6, 6, 6, 6, 6, 6, 6, 6, 6, 6, 6, 6, 6, 6, 6, 6, 6, 6, 6, 6, 6, 6, 6, 6, 6, 6, 7, 7, 7, 7, 7, 7, 7, 7, 7, 7, 7, 7, 7, 7, 7, 7, 7, 7, 7, 7, 7, 7, 7, 7, 7, 7, 7, 7, 7, 7, 7, 7, 7, 7, 7, 7, 7, 7, 7, 7, 7, 7, 7, 7, 7, 7, 7, 7, 7, 7, 7, 7, 7, 7, 7, 7, 7, 7, 7, 7, 7, 7, 7, 7, 8, 8, 8, 8, 8, 8, 8, 8, 8, 8, 8, 8, 8, 8, 8, 8, 8, 8, 8, 8, 8, 8, 8, 8, 8, 8, 8, 8, 8, 8, 8, 8, 8, 8, 8, 8, 8, 8, 8, 8, 8, 8, 8, 8, 8, 8, 8, 8, 8, 8, 8, 8, 8, 8, 8, 8, 8, 8, 8, 8, 8, 8, 8, 8, 8, 8, 8, 8, 8, 8, 8, 8, 8, 8, 8, 8, 8, 8, 8, 8, 8, 8, 8, 8, 8, 8, 8, 8, 8, 8, 8, 8, 8, 8, 8, 8, 8, 8, 8, 8, 8, 8, 8, 8, 8, 8, 8, 8, 8, 8, 8, 8, 8, 8, 8, 8, 8, 8, 8, 8, 8, 8, 8, 8, 8, 8, 8, 8]⟩)))) (.t 21), none, 0, 0⟩,
        ⟨(some 23), .conv .i64 (.t 22), none, 0, 0⟩,
        ⟨(some 24), .bin .add (.t 19) (.t 23), none, 0, 0⟩,
        ⟨(some 2), .mov (.t 24), none, 0, 0⟩] false)
      .ret))))), false⟩
/-- slices.siftDownOrdered[int] -/
def t79 : AFn := ⟨4, 76, [],
 (.seq
  (.region [⟨(some 10), .mov (.t 1), none, 0, 0⟩,
    ⟨(some 8), .mov (.t 10), none, 0, 0⟩] false)
  (.block 0
   (.loop
    (.block 1
     (.seq
      (.region [⟨(some 11), .mov (.t 8), none, 0, 0⟩,
        ⟨(some 12), .bin .mul (.c (.d (.sc (.int .i64 2)))) (.t 11), none, 0, 0⟩,
        ⟨(some 13), .bin .add (.t 12) (.c (.d (.sc (.int .i64 1)))), none, 0, 0⟩,
        ⟨(some 9), .mov (.t 13), none, 0, 0⟩] false)
      (.seq
       (.seq
        (.region [⟨(some 14), .mov (.t 9), none, 0, 0⟩,
          ⟨(some 15), .mov (.t 2), none, 0, 0⟩,
          ⟨(some 16), .bin .geq (.t 14) (.t 15), none, 0, 0⟩] false)
        (.cond (.t 16)
         (.exit 0)
         .skip))
       (.seq
        (.seq
         (.region [⟨(some 17), .mov (.t 9), none, 0, 0⟩,
           ⟨(some 18), .bin .add (.t 17) (.c (.d (.sc (.int .i64 1)))), none, 1, 0⟩,
           ⟨(some 19), .mov (.t 2), none, 0, 0⟩,
           ⟨(some 20), .bin .lss (.t 18) (.t 19), none, 7, 0⟩,
           ⟨(some 21), .mov (.t 20), none, 15, 0⟩,
           ⟨(some 22), .mov (.t 0), (some (21, true)), 31, 0⟩,
           ⟨(some 23), .mov (.t 3), (some (21, true)), 31, 0⟩,
           ⟨(some 24), .mov (.t 9), (some (21, true)), 31, 0⟩,
           ⟨(some 25), .bin .add (.t 23) (.t 24), (some (21, true)), 223, 0⟩,
           ⟨(some 26), .indexAddr 1 (.t 22) (.t 25), (some (21, true)), 511, 0⟩,
           ⟨(some 27), .load 1 false (.t 26), (some (21, true)), 1023, 0⟩,
           ⟨(some 28), .mov (.t 0), (some (21, true)), 31, 0⟩,
           ⟨(some 29), .mov (.t 3), (some (21, true)), 31, 0⟩,
           ⟨(some 30), .mov (.t 9), (some (21, true)), 31, 0⟩,
           ⟨(some 31), .bin .add (.t 29) (.t 30), (some (21, true)), 12319, 0⟩,
           ⟨(some 32), .bin .add (.t 31) (.c (.d (.sc (.int .i64 1)))), (some (21, true)), 28703, 0⟩,
           ⟨(some 33), .indexAddr 1 (.t 28) (.t 32), (some (21, true)), 63519, 0⟩,
           ⟨(some 34), .load 1 false (.t 33), (some (21, true)), 129055, 0⟩,
           ⟨(some 35), .call 74 [(.t 27), (.t 34)], (some (21, true)), 262143, 0⟩,
           ⟨(some 36), .pick (.t 21) (.t 35) (.c (.d (.sc (.bool false)))), none, 524287, 0⟩] true)
         (.cond (.t 36)
          (.region [⟨(some 37), .mov (.t 9), none, 0, 0⟩,
            ⟨(some 38), .bin .add (.t 37) (.c (.d (.sc (.int .i64 1)))), none, 0, 0⟩,
            ⟨(some 9), .mov (.t 38), none, 0, 0⟩] false)
          .skip))
        (.seq
         (.seq
          (.region [⟨(some 39), .mov (.t 0), none, 0, 0⟩,
            ⟨(some 40), .mov (.t 3), none, 0, 0⟩,
            ⟨(some 41), .mov (.t 8), none, 0, 0⟩,
            ⟨(some 42), .bin .add (.t 40) (.t 41), none, 6, 0⟩,
            ⟨(some 43), .indexAddr 1 (.t 39) (.t 42), none, 15, 0⟩,
            ⟨(some 44), .load 1 false (.t 43), none, 31, 0⟩,
            ⟨(some 45), .mov (.t 0), none, 0, 0⟩,
            ⟨(some 46), .mov (.t 3), none, 0, 0⟩,
            ⟨(some 47), .mov (.t 9), none, 0, 0⟩,
            ⟨(some 48), .bin .add (.t 46) (.t 47), none, 384, 0⟩,
            ⟨(some 49), .indexAddr 1 (.t 45) (.t 48), none, 960, 0⟩,
            ⟨(some 50), .load 1 false (.t 49), none, 1984, 0⟩,
            ⟨(some 51), .call 74 [(.t 44), (.t 50)], none, 4095, 0⟩,
            ⟨(some 52), .un .not (.t 51), none, 8191, 0⟩] true)
          (.cond (.t 52)
           .ret
           .skip))
         (.seq
          (.region [⟨(some 53), .mov (.t 0), none, 0, 0⟩,
            ⟨(some 54), .mov (.t 3), none, 0, 0⟩,
            ⟨(some 55), .mov (.t 8), none, 0, 0⟩,
            ⟨(some 56), .bin .add (.t 54) (.t 55), none, 6, 0⟩,
            ⟨(some 57), .mov (.t 0), none, 0, 0⟩,
            ⟨(some 58), .mov (.t 3), none, 0, 0⟩,
            ⟨(some 59), .mov (.t 9), none, 0, 0⟩,
            ⟨(some 60), .bin .add (.t 58) (.t 59), none, 96, 0⟩,
            ⟨(some 61), .mov (.t 0), none, 0, 0⟩,
            ⟨(some 62), .mov (.t 3), none, 0, 0⟩,
            ⟨(some 63), .mov (.t 9), none, 0, 0⟩,
            ⟨(some 64), .bin .add (.t 62) (.t 63), none, 1536, 0⟩,
            ⟨(some 65), .indexAddr 1 (.t 61) (.t 64), none, 3840, 0⟩,
            ⟨(some 66), .load 1 false (.t 65), none, 7936, 0⟩,
            ⟨(some 67), .mov (.t 0), none, 0, 0⟩,
            ⟨(some 68), .mov (.t 3), none, 0, 0⟩,
            ⟨(some 69), .mov (.t 8), none, 0, 0⟩,
            ⟨(some 70), .bin .add (.t 68) (.t 69), none, 98304, 0⟩,
            ⟨(some 71), .indexAddr 1 (.t 67) (.t 70), none, 245760, 0⟩,
            ⟨(some 72), .load 1 false (.t 71), none, 507904, 0⟩,
            ⟨(some 73), .indexAddr 1 (.t 53) (.t 56), none, 1048335, 0⟩,
            ⟨none, .store 1 (.t 73) (.t 66), none, 2096911, 0⟩,
            ⟨(some 74), .indexAddr 1 (.t 57) (.t 60), none, 4194303, 0⟩,
            ⟨none, .store 1 (.t 74) (.t 72), none, 8388607, 0⟩] true)
          (.region [⟨(some 75), .mov (.t 9), none, 0, 0⟩,
            ⟨(some 8), .mov (.t 75), none, 0, 0⟩] false)))))))))), true⟩
/-- slices.nextPowerOfTwo -/
def t80 : AFn := ⟨1, 7, [.t 2],
 (.seq
  (.region [⟨(some 2), .mov (.c (.d (.sc (.int .u64 0)))), none, 0, 0⟩] false)
  (.seq
   (.region [⟨(some 3), .mov (.t 0), none, 0, 0⟩,
     ⟨(some 4), .conv .u64 (.t 3), none, 0, 0⟩,
     ⟨(some 5), .call 62 [(.t 4)], none, 0, 0⟩,
     ⟨(some 6), .bin .shl (.c (.d (.sc (.int .u64 1)))) (.t 5), none, 0, 0⟩,
     ⟨(some 2), .mov (.t 6), none, 0, 0⟩] false)
   .ret)), false⟩
/-- (*slices.xorshift).Next -/
def t81 : AFn := ⟨1, 33, [.t 2],
 (.seq
  (.region [⟨(some 2), .mov (.c (.d (.sc (.int .u64 0)))), none, 0, 0⟩] false)
  (.seq
   (.region [⟨(some 3), .mov (.t 0), none, 0, 0⟩,
     ⟨(some 4), .nilCheck (.t 3), none, 1, 0⟩,
     ⟨(some 5), .load 1 false (.t 4), none, 3, 0⟩,
     ⟨(some 6), .mov (.t 0), none, 0, 0⟩,
     ⟨(some 7), .nilCheck (.t 6), none, 8, 0⟩,
     ⟨(some 8), .load 1 false (.t 7), none, 24, 0⟩,
     ⟨(some 9), .bin .shl (.t 8) (.c (.d (.sc (.int .u64 13)))), none, 56, 0⟩,
     ⟨(some 10), .bin .xor (.t 5) (.t 9), none, 127, 0⟩,
     ⟨(some 11), .nilCheck (.t 3), none, 255, 0⟩,
     ⟨none, .store 1 (.t 11) (.t 10), none, 511, 0⟩] true)
   (.seq
    (.region [⟨(some 12), .mov (.t 0), none, 0, 0⟩,
      ⟨(some 13), .nilCheck (.t 12), none, 1, 0⟩,
      ⟨(some 14), .load 1 false (.t 13), none, 3, 0⟩,
      ⟨(some 15), .mov (.t 0), none, 0, 0⟩,
      ⟨(some 16), .nilCheck (.t 15), none, 8, 0⟩,
      ⟨(some 17), .load 1 false (.t 16), none, 24, 0⟩,
      ⟨(some 18), .bin .shr (.t 17) (.c (.d (.sc (.int .u64 7)))), none, 56, 0⟩,
      ⟨(some 19), .bin .xor (.t 14) (.t 18), none, 127, 0⟩,
      ⟨(some 20), .nilCheck (.t 12), none, 255, 0⟩,
      ⟨none, .store 1 (.t 20) (.t 19), none, 511, 0⟩] true)
    (.seq
     (.region [⟨(some 21), .mov (.t 0), none, 0, 0⟩,
       ⟨(some 22), .nilCheck (.t 21), none, 1, 0⟩,
       ⟨(some 23), .load 1 false (.t 22), none, 3, 0⟩,
       ⟨(some 24), .mov (.t 0), none, 0, 0⟩,
       ⟨(some 25), .nilCheck (.t 24), none, 8, 0⟩,
       ⟨(some 26), .load 1 false (.t 25), none, 24, 0⟩,
       ⟨(some 27), .bin .shl (.t 26) (.c (.d (.sc (.int .u64 17)))), none, 56, 0⟩,
       ⟨(some 28), .bin .xor (.t 23) (.t 27), none, 127, 0⟩,
       ⟨(some 29), .nilCheck (.t 21), none, 255, 0⟩,
       ⟨none, .store 1 (.t 29) (.t 28), none, 511, 0⟩] true)
     (.seq
      (.region [⟨(some 30), .mov (.t 0), none, 0, 0⟩,
        ⟨(some 31), .nilCheck (.t 30), none, 0, 0⟩,
        ⟨(some 32), .load 1 false (.t 31), none, 0, 0⟩,
        ⟨(some 2), .mov (.t 32), none, 0, 0⟩] false)
      .ret))))), true⟩
/-- slices.medianAdjacentOrdered[int] -/
def t82 : AFn := ⟨3, 15, [.t 6],
 (.seq
  (.region [⟨(some 6), .mov (.c (.d (.sc (.int .i64 0)))), none, 0, 0⟩] false)
  (.seq
   (.region [⟨(some 7), .mov (.t 0), none, 0, 0⟩,
     ⟨(some 8), .mov (.t 1), none, 0, 0⟩,
     ⟨(some 9), .bin .sub (.t 8) (.c (.d (.sc (.int .i64 1)))), none, 0, 0⟩,
     ⟨(some 10), .mov (.t 1), none, 0, 0⟩,
     ⟨(some 11), .mov (.t 1), none, 0, 0⟩,
     ⟨(some 12), .bin .add (.t 11) (.c (.d (.sc (.int .i64 1)))), none, 0, 0⟩,
     ⟨(some 13), .mov (.t 2), none, 0, 0⟩,
     ⟨(some 14), .call 83 [(.t 7), (.t 9), (.t 10), (.t 12), (.t 13)], none, 0, 0⟩,
     ⟨(some 6), .mov (.t 14), none, 0, 0⟩] false)
   .ret)), true⟩
/-- slices.medianOrdered[int] -/
def t83 : AFn := ⟨5, 36, [.t 10],
 (.seq
  (.region [⟨(some 10), .mov (.c (.d (.sc (.int .i64 0)))), none, 0, 0⟩] false)
  (.seq
   (.region [⟨(some 12), .mov (.t 0), none, 0, 0⟩,
     ⟨(some 13), .mov (.t 1), none, 0, 0⟩,
     ⟨(some 14), .mov (.t 2), none, 0, 0⟩,
     ⟨(some 15), .mov (.t 4), none, 0, 0⟩,
     ⟨(some 16), .call 85 [(.t 12), (.t 13), (.t 14), (.t 15)], none, 0, 0⟩,
     ⟨(some 11), .mov (.t 16), none, 0, 0⟩,
     ⟨(some 17), .extract (.t 11) 0, none, 0, 0⟩,
     ⟨(some 18), .extract (.t 11) 1, none, 0, 0⟩,
     ⟨(some 1), .mov (.t 17), none, 0, 0⟩,
     ⟨(some 2), .mov (.t 18), none, 0, 0⟩] false)
   (.seq
    (.region [⟨(some 20), .mov (.t 0), none, 0, 0⟩,
      ⟨(some 21), .mov (.t 2), none, 0, 0⟩,
      ⟨(some 22), .mov (.t 3), none, 0, 0⟩,
      ⟨(some 23), .mov (.t 4), none, 0, 0⟩,
      ⟨(some 24), .call 85 [(.t 20), (.t 21), (.t 22), (.t 23)], none, 0, 0⟩,
      ⟨(some 19), .mov (.t 24), none, 0, 0⟩,
      ⟨(some 25), .extract (.t 19) 0, none, 0, 0⟩,
      ⟨(some 26), .extract (.t 19) 1, none, 0, 0⟩,
      ⟨(some 2), .mov (.t 25), none, 0, 0⟩,
      ⟨(some 3), .mov (.t 26), none, 0, 0⟩] false)
    (.seq
     (.region [⟨(some 28), .mov (.t 0), none, 0, 0⟩,
       ⟨(some 29), .mov (.t 1), none, 0, 0⟩,
       ⟨(some 30), .mov (.t 2), none, 0, 0⟩,
       ⟨(some 31), .mov (.t 4), none, 0, 0⟩,
       ⟨(some 32), .call 85 [(.t 28), (.t 29), (.t 30), (.t 31)], none, 0, 0⟩,
       ⟨(some 27), .mov (.t 32), none, 0, 0⟩,
       ⟨(some 33), .extract (.t 27) 0, none, 0, 0⟩,
       ⟨(some 34), .extract (.t 27) 1, none, 0, 0⟩,
       ⟨(some 1), .mov (.t 33), none, 0, 0⟩,
       ⟨(some 2), .mov (.t 34), none, 0, 0⟩] false)
     (.seq
      (.region [⟨(some 35), .mov (.t 2), none, 0, 0⟩,
        ⟨(some 10), .mov (.t 35), none, 0, 0⟩] false)
      .ret))))), true⟩
/-- cmp.isNaN[int] -/
def t84 : AFn := ⟨1, 6, [.t 2],
 (.seq
  (.region [⟨(some 2), .mov (.c (.d (.sc (.bool false)))), none, 0, 0⟩] false)
  (.seq
   (.region [⟨(some 3), .mov (.t 0), none, 0, 0⟩,
     ⟨(some 4), .mov (.t 0), none, 0, 0⟩,
     ⟨(some 5), .bin .neq (.t 3) (.t 4), none, 0, 0⟩,
     ⟨(some 2), .mov (.t 5), none, 0, 0⟩] false)
   .ret)), false⟩
/-- slices.order2Ordered[int] -/
def t85 : AFn := ⟨4, 28, [.t 8, .t 9],
 (.seq
  (.region [⟨(some 8), .mov (.c (.d (.sc (.int .i64 0)))), none, 0, 0⟩,
    ⟨(some 9), .mov (.c (.d (.sc (.int .i64 0)))), none, 0, 0⟩] false)
  (.seq
   (.seq
    (.region [⟨(some 10), .mov (.t 0), none, 0, 0⟩,
      ⟨(some 11), .mov (.t 2), none, 0, 0⟩,
      ⟨(some 12), .indexAddr 1 (.t 10) (.t 11), none, 3, 0⟩,
      ⟨(some 13), .load 1 false (.t 12), none, 7, 0⟩,
      ⟨(some 14), .mov (.t 0), none, 0, 0⟩,
      ⟨(some 15), .mov (.t 1), none, 0, 0⟩,
      ⟨(some 16), .indexAddr 1 (.t 14) (.t 15), none, 48, 0⟩,
      ⟨(some 17), .load 1 false (.t 16), none, 112, 0⟩,
      ⟨(some 18), .call 74 [(.t 13), (.t 17)], none, 255, 0⟩] true)
    (.cond (.t 18)
     (.seq
      (.region [⟨(some 19), .mov (.t 3), none, 0, 0⟩,
        ⟨(some 20), .nilCheck (.t 19), none, 0, 0⟩,
        ⟨(some 21), .load 1 false (.t 20), none, 0, 0⟩,
        ⟨(some 22), .bin .add (.t 21) (.c (.d (.sc (.int .i64 1)))), none, 0, 0⟩,
        ⟨(some 23), .nilCheck (.t 19), none, 0, 0⟩,
        ⟨none, .store 1 (.t 23) (.t 22), none, 0, 0⟩] false)
      (.seq
       (.region [⟨(some 24), .mov (.t 2), none, 0, 0⟩,
         ⟨(some 25), .mov (.t 1), none, 0, 0⟩,
         ⟨(some 8), .mov (.t 24), none, 0, 0⟩,
         ⟨(some 9), .mov (.t 25), none, 0, 0⟩] false)
       .ret))
     .skip))
   (.seq
    (.region [⟨(some 26), .mov (.t 1), none, 0, 0⟩,
      ⟨(some 27), .mov (.t 2), none, 0, 0⟩,
      ⟨(some 8), .mov (.t 26), none, 0, 0⟩,
      ⟨(some 9), .mov (.t 27), none, 0, 0⟩] false)
    .ret))), true⟩
def md : Nat → Eng.Mode := fun f => match f with
  | 8 => ⟨[(53, 1)], false⟩
  | 11 => ⟨[], false⟩
  | 13 => ⟨[(13, 1)], false⟩
  | 15 => ⟨[], false⟩
  | 17 => ⟨[], false⟩
  | 18 => ⟨[], false⟩
  | 22 => ⟨[], false⟩
  | 23 => ⟨[(74, 1), (39, 1)], false⟩
  | 29 => ⟨[], false⟩
  | 31 => ⟨[], false⟩
  | 34 => ⟨[], false⟩
  | 36 => ⟨[(28, 1)], false⟩
  | 38 => ⟨[(40, 1), (10, 1)], true⟩
  | 39 => ⟨[], true⟩
  | 40 => ⟨[], false⟩
  | 43 => ⟨[], false⟩
  | 44 => ⟨[], false⟩
  | 45 => ⟨[], false⟩
  | 46 => ⟨[], true⟩
  | 48 => ⟨[], true⟩
  | 49 => ⟨[], false⟩
  | 50 => ⟨[], true⟩
  | 53 => ⟨[], true⟩
  | 54 => ⟨[], true⟩
  | 55 => ⟨[], false⟩
  | 56 => ⟨[], false⟩
  | 60 => ⟨[], true⟩
  | 61 => ⟨[], true⟩
  | 62 => ⟨[], false⟩
  | 63 => ⟨[], true⟩
  | 64 => ⟨[], false⟩
  | 65 => ⟨[], false⟩
  | 66 => ⟨[], false⟩
  | 67 => ⟨[], false⟩
  | 68 => ⟨[], true⟩
  | 69 => ⟨[], true⟩
  | 70 => ⟨[], true⟩
  | 71 => ⟨[], true⟩
  | 72 => ⟨[], true⟩
  | 73 => ⟨[], true⟩
  | 74 => ⟨[], false⟩
  | 75 => ⟨[], true⟩
  | 76 => ⟨[], true⟩
  | 77 => ⟨[], false⟩
  | 78 => ⟨[], false⟩
  | 79 => ⟨[], true⟩
  | 80 => ⟨[], false⟩
  | 81 => ⟨[], true⟩
  | 82 => ⟨[], true⟩
  | 83 => ⟨[], true⟩
  | 84 => ⟨[], false⟩
  | 85 => ⟨[], true⟩
  | _ => ⟨[], false⟩
def lib : Nat → Option TypeId := fun f => match f with
  | _ => none
def tab : Nat → Option AFn := fun f => match f with
  | 8 => some t8
  | 11 => some t11
  | 13 => some t13
  | 15 => some t15
  | 17 => some t17
  | 18 => some t18
  | 22 => some t22
  | 23 => some t23
  | 29 => some t29
  | 31 => some t31
  | 34 => some t34
  | 36 => some t36
  | 38 => some t38
  | 39 => some t39
  | 40 => some t40
  | 43 => some t43
  | 44 => some t44
  | 45 => some t45
  | 46 => some t46
  | 48 => some t48
  | 49 => some t49
  | 50 => some t50
  | 53 => some t53
  | 54 => some t54
  | 55 => some t55
  | 56 => some t56
  | 60 => some t60
  | 61 => some t61
  | 62 => some t62
  | 63 => some t63
  | 64 => some t64
  | 65 => some t65
  | 66 => some t66
  | 67 => some t67
  | 68 => some t68
  | 69 => some t69
  | 70 => some t70
  | 71 => some t71
  | 72 => some t72
  | 73 => some t73
  | 74 => some t74
  | 75 => some t75
  | 76 => some t76
  | 77 => some t77
  | 78 => some t78
  | 79 => some t79
  | 80 => some t80
  | 81 => some t81
  | 82 => some t82
  | 83 => some t83
  | 84 => some t84
  | 85 => some t85
  | _ => none
theorem ok8 : fnP Try.prog lib md 8 = some t8 := by kernel_rfl
theorem ok11 : fnP Try.prog lib md 11 = some t11 := by kernel_rfl
theorem ok13 : fnP Try.prog lib md 13 = some t13 := by kernel_rfl
theorem ok15 : fnP Try.prog lib md 15 = some t15 := by kernel_rfl
theorem ok17 : fnP Try.prog lib md 17 = some t17 := by kernel_rfl
theorem ok18 : fnP Try.prog lib md 18 = some t18 := by kernel_rfl
theorem ok22 : fnP Try.prog lib md 22 = some t22 := by kernel_rfl
theorem ok23 : fnP Try.prog lib md 23 = some t23 := by kernel_rfl
theorem ok29 : fnP Try.prog lib md 29 = some t29 := by kernel_rfl
theorem ok31 : fnP Try.prog lib md 31 = some t31 := by kernel_rfl
theorem ok34 : fnP Try.prog lib md 34 = some t34 := by kernel_rfl
theorem ok36 : fnP Try.prog lib md 36 = some t36 := by kernel_rfl
theorem ok38 : fnP Try.prog lib md 38 = some t38 := by kernel_rfl
theorem ok39 : fnP Try.prog lib md 39 = some t39 := by kernel_rfl
theorem ok40 : fnP Try.prog lib md 40 = some t40 := by kernel_rfl
theorem ok43 : fnP Try.prog lib md 43 = some t43 := by kernel_rfl
theorem ok44 : fnP Try.prog lib md 44 = some t44 := by kernel_rfl
theorem ok45 : fnP Try.prog lib md 45 = some t45 := by kernel_rfl
theorem ok46 : fnP Try.prog lib md 46 = some t46 := by kernel_rfl
theorem ok48 : fnP Try.prog lib md 48 = some t48 := by kernel_rfl
theorem ok49 : fnP Try.prog lib md 49 = some t49 := by kernel_rfl
theorem ok50 : fnP Try.prog lib md 50 = some t50 := by kernel_rfl
theorem ok53 : fnP Try.prog lib md 53 = some t53 := by kernel_rfl
theorem ok54 : fnP Try.prog lib md 54 = some t54 := by kernel_rfl
theorem ok55 : fnP Try.prog lib md 55 = some t55 := by kernel_rfl
theorem ok56 : fnP Try.prog lib md 56 = some t56 := by kernel_rfl
theorem ok60 : fnP Try.prog lib md 60 = some t60 := by kernel_rfl
theorem ok61 : fnP Try.prog lib md 61 = some t61 := by kernel_rfl
theorem ok62 : fnP Try.prog lib md 62 = some t62 := by kernel_rfl
theorem ok63 : fnP Try.prog lib md 63 = some t63 := by kernel_rfl
theorem ok64 : fnP Try.prog lib md 64 = some t64 := by kernel_rfl
theorem ok65 : fnP Try.prog lib md 65 = some t65 := by kernel_rfl
theorem ok66 : fnP Try.prog lib md 66 = some t66 := by kernel_rfl
theorem ok67 : fnP Try.prog lib md 67 = some t67 := by kernel_rfl
theorem ok68 : fnP Try.prog lib md 68 = some t68 := by kernel_rfl
theorem ok69 : fnP Try.prog lib md 69 = some t69 := by kernel_rfl
theorem ok70 : fnP Try.prog lib md 70 = some t70 := by kernel_rfl
theorem ok71 : fnP Try.prog lib md 71 = some t71 := by kernel_rfl
theorem ok72 : fnP Try.prog lib md 72 = some t72 := by kernel_rfl
theorem ok73 : fnP Try.prog lib md 73 = some t73 := by kernel_rfl
theorem ok74 : fnP Try.prog lib md 74 = some t74 := by kernel_rfl
theorem ok75 : fnP Try.prog lib md 75 = some t75 := by kernel_rfl
theorem ok76 : fnP Try.prog lib md 76 = some t76 := by kernel_rfl
theorem ok77 : fnP Try.prog lib md 77 = some t77 := by kernel_rfl
theorem ok78 : fnP Try.prog lib md 78 = some t78 := by kernel_rfl
theorem ok79 : fnP Try.prog lib md 79 = some t79 := by kernel_rfl
theorem ok80 : fnP Try.prog lib md 80 = some t80 := by kernel_rfl
theorem ok81 : fnP Try.prog lib md 81 = some t81 := by kernel_rfl
theorem ok82 : fnP Try.prog lib md 82 = some t82 := by kernel_rfl
theorem ok83 : fnP Try.prog lib md 83 = some t83 := by kernel_rfl
theorem ok84 : fnP Try.prog lib md 84 = some t84 := by kernel_rfl
theorem ok85 : fnP Try.prog lib md 85 = some t85 := by kernel_rfl
theorem run : (runF tab 20000 8 [] [.lf] .lf 0).map (·.1) = some (.d (.sc (.bool true))) := by kernel_rfl
end Go.Proofs.Ytedmahccogjemaa
