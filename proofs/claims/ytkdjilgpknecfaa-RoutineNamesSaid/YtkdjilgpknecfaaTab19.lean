/- A part of the proof: Tab19. -/
import Derived.Test.YtkdjilgpknecfaaEngZA
import Derived.Test.YtkdjilgpknecfaaRows
import Derived.ProofKit
namespace Go.Proofs.Ytkdjilgpknecfaa
open Go Go.Eng
/-- wreckage/wreckagelaw19.RoutineNames -/
def t8 : AFn := ⟨0, 304, [.t 0],
 (.seq
  (.region [⟨(some 0), .mov (.c (.d (.sc (.bool false)))), none, 0, 0⟩] false)
  (.seq
   (.region [⟨(some 1), .mov (.c (.d (.sc (.int .u64 16777216)))), none, 0, 0⟩] false)
   (.seq
    (.region [⟨(some 43), .build [(.d (.sc (.int .u8 0))), (.d (.sc (.int .u64 0))), (.d (.sc (.int .u64 0))), (.d (.sc (.int .u64 0))), (.d (.sc (.int .u64 0))), (.d (.sc (.int .i64 0)))] [], none, 0, 0⟩,
      ⟨(some 44), .mov (.t 1), none, 0, 0⟩,
      ⟨(some 45), .bin .add (.t 44) (.c (.d (.sc (.int .u64 24)))), none, 0, 0⟩,
      ⟨(some 46), .build [(.d (.sc (.int .u8 0))), (.d (.sc (.int .u64 0))), (.d (.sc (.int .u64 0))), (.d (.sc (.int .u64 0))), (.d (.sc (.int .u64 0))), (.d (.sc (.int .i64 0)))] [(0, 1, (.c (.d (.sc (.int .u8 4))))), (1, 1, (.c (.d (.sc (.int .u64 256))))), (2, 1, (.t 45))], none, 0, 0⟩,
      ⟨(some 47), .mov (.t 1), none, 0, 0⟩,
      ⟨(some 48), .bin .add (.t 47) (.c (.d (.sc (.int .u64 24)))), none, 0, 0⟩,
      ⟨(some 49), .build [(.d (.sc (.int .u8 0))), (.d (.sc (.int .u64 0))), (.d (.sc (.int .u64 0))), (.d (.sc (.int .u64 0))), (.d (.sc (.int .u64 0))), (.d (.sc (.int .i64 0)))] [(0, 1, (.c (.d (.sc (.int .u8 1))))), (1, 1, (.c (.d (.sc (.int .u64 255))))), (2, 1, (.t 48))], none, 0, 0⟩,
      ⟨(some 50), .mov (.t 1), none, 0, 0⟩,
      ⟨(some 51), .bin .add (.t 50) (.c (.d (.sc (.int .u64 24)))), none, 0, 0⟩,
      ⟨(some 52), .build [(.d (.sc (.int .u8 0))), (.d (.sc (.int .u64 0))), (.d (.sc (.int .u64 0))), (.d (.sc (.int .u64 0))), (.d (.sc (.int .u64 0))), (.d (.sc (.int .i64 0)))] [(0, 1, (.c (.d (.sc (.int .u8 1))))), (1, 1, (.c (.d (.sc (.int .u64 8448))))), (2, 1, (.t 51))], none, 0, 0⟩,
      ⟨(some 53), .mov (.t 1), none, 0, 0⟩,
      ⟨(some 54), .bin .add (.t 53) (.c (.d (.sc (.int .u64 16)))), none, 0, 0⟩,
      ⟨(some 55), .build [(.d (.sc (.int .u8 0))), (.d (.sc (.int .u64 0))), (.d (.sc (.int .u64 0))), (.d (.sc (.int .u64 0))), (.d (.sc (.int .u64 0))), (.d (.sc (.int .i64 0)))] [(0, 1, (.c (.d (.sc (.int .u8 1))))), (1, 1, (.c (.d (.sc (.int .u64 256))))), (2, 1, (.t 54))], none, 0, 0⟩,
      ⟨(some 56), .mov (.t 1), none, 0, 0⟩,
      ⟨(some 57), .bin .add (.t 56) (.c (.d (.sc (.int .u64 4104)))), none, 0, 0⟩,
      ⟨(some 58), .build [(.d (.sc (.int .u8 0))), (.d (.sc (.int .u64 0))), (.d (.sc (.int .u64 0))), (.d (.sc (.int .u64 0))), (.d (.sc (.int .u64 0))), (.d (.sc (.int .i64 0)))] [(0, 1, (.c (.d (.sc (.int .u8 1))))), (1, 1, (.c (.d (.sc (.int .u64 256))))), (2, 1, (.t 57))], none, 0, 0⟩,
      ⟨(some 59), .mov (.t 1), none, 0, 0⟩,
      ⟨(some 60), .bin .add (.t 59) (.c (.d (.sc (.int .u64 28)))), none, 0, 0⟩,
      ⟨(some 61), .build [(.d (.sc (.int .u8 0))), (.d (.sc (.int .u64 0))), (.d (.sc (.int .u64 0))), (.d (.sc (.int .u64 0))), (.d (.sc (.int .u64 0))), (.d (.sc (.int .i64 0)))] [(0, 1, (.c (.d (.sc (.int .u8 1))))), (1, 1, (.c (.d (.sc (.int .u64 256))))), (2, 1, (.t 60))], none, 0, 0⟩,
      ⟨(some 62), .mov (.t 1), none, 0, 0⟩,
      ⟨(some 63), .bin .sub (.t 62) (.c (.d (.sc (.int .u64 8)))), none, 0, 0⟩,
      ⟨(some 64), .build [(.d (.sc (.int .u8 0))), (.d (.sc (.int .u64 0))), (.d (.sc (.int .u64 0))), (.d (.sc (.int .u64 0))), (.d (.sc (.int .u64 0))), (.d (.sc (.int .i64 0)))] [(0, 1, (.c (.d (.sc (.int .u8 1))))), (1, 1, (.c (.d (.sc (.int .u64 256))))), (2, 1, (.t 63))], none, 0, 0⟩,
      ⟨(some 65), .mov (.t 1), none, 0, 0⟩,
      ⟨(some 66), .bin .add (.t 65) (.c (.d (.sc (.int .u64 24)))), none, 0, 0⟩,
      ⟨(some 67), .build [(.d (.sc (.int .u8 0))), (.d (.sc (.int .u64 0))), (.d (.sc (.int .u64 0))), (.d (.sc (.int .u64 0))), (.d (.sc (.int .u64 0))), (.d (.sc (.int .i64 0)))] [(0, 1, (.c (.d (.sc (.int .u8 1))))), (1, 1, (.c (.d (.sc (.int .u64 256))))), (2, 1, (.t 66)), (5, 1, (.c (.d (.sc (.int .i64 1)))))], none, 0, 0⟩,
      ⟨(some 68), .mov (.t 1), none, 0, 0⟩,
      ⟨(some 69), .bin .add (.t 68) (.c (.d (.sc (.int .u64 24)))), none, 0, 0⟩,
      ⟨(some 70), .build [(.d (.sc (.int .u8 0))), (.d (.sc (.int .u64 0))), (.d (.sc (.int .u64 0))), (.d (.sc (.int .u64 0))), (.d (.sc (.int .u64 0))), (.d (.sc (.int .i64 0)))] [(0, 1, (.c (.d (.sc (.int .u8 2))))), (1, 1, (.c (.d (.sc (.int .u64 256))))), (2, 1, (.t 69)), (3, 1, (.c (.d (.sc (.int .u64 65528)))))], none, 0, 0⟩,
      ⟨(some 71), .mov (.t 1), none, 0, 0⟩,
      ⟨(some 72), .bin .add (.t 71) (.c (.d (.sc (.int .u64 24)))), none, 0, 0⟩,
      ⟨(some 73), .build [(.d (.sc (.int .u8 0))), (.d (.sc (.int .u64 0))), (.d (.sc (.int .u64 0))), (.d (.sc (.int .u64 0))), (.d (.sc (.int .u64 0))), (.d (.sc (.int .i64 0)))] [(0, 1, (.c (.d (.sc (.int .u8 2))))), (1, 1, (.c (.d (.sc (.int .u64 256))))), (2, 1, (.t 72)), (4, 1, (.c (.d (.sc (.int .u64 65540)))))], none, 0, 0⟩,
      ⟨(some 74), .build [(.d (.sc (.int .u8 0))), (.d (.sc (.int .u64 0))), (.d (.sc (.int .u64 0))), (.d (.sc (.int .u64 0))), (.d (.sc (.int .u64 0))), (.d (.sc (.int .i64 0)))] [(0, 1, (.c (.d (.sc (.int .u8 3)))))], none, 0, 0⟩,
      ⟨(some 75), .mov (.t 1), none, 0, 0⟩,
      ⟨(some 76), .build [(.d (.sc (.int .u8 0))), (.d (.sc (.int .u64 0))), (.d (.sc (.int .u64 0))), (.d (.sc (.int .u64 0))), (.d (.sc (.int .u64 0))), (.d (.sc (.int .i64 0)))] [(0, 1, (.c (.d (.sc (.int .u8 3))))), (2, 1, (.t 75)), (5, 1, (.c (.d (.sc (.int .i64 1)))))], none, 0, 0⟩,
      ⟨(some 77), .mov (.t 1), none, 0, 0⟩,
      ⟨(some 78), .build [(.d (.sc (.int .u8 0))), (.d (.sc (.int .u64 0))), (.d (.sc (.int .u64 0))), (.d (.sc (.int .u64 0))), (.d (.sc (.int .u64 0))), (.d (.sc (.int .i64 0)))] [(0, 1, (.c (.d (.sc (.int .u8 3))))), (2, 1, (.t 77)), (1, 1, (.c (.d (.sc (.int .u64 256)))))], none, 0, 0⟩,
      ⟨(some 79), .mov (.t 1), none, 0, 0⟩,
      ⟨(some 80), .build [(.d (.sc (.int .u8 0))), (.d (.sc (.int .u64 0))), (.d (.sc (.int .u64 0))), (.d (.sc (.int .u64 0))), (.d (.sc (.int .u64 0))), (.d (.sc (.int .i64 0)))] [(0, 1, (.c (.d (.sc (.int .u8 3))))), (2, 1, (.t 79)), (3, 1, (.c (.d (.sc (.int .u64 65536)))))], none, 0, 0⟩,
      ⟨(some 81), .mov (.t 1), none, 0, 0⟩,
      ⟨(some 82), .bin .mul (.c (.d (.sc (.int .u64 2)))) (.t 81), none, 0, 0⟩,
      ⟨(some 83), .bin .add (.t 82) (.c (.d (.sc (.int .u64 24)))), none, 0, 0⟩,
      ⟨(some 84), .build [(.d (.sc (.int .u8 0))), (.d (.sc (.int .u64 0))), (.d (.sc (.int .u64 0))), (.d (.sc (.int .u64 0))), (.d (.sc (.int .u64 0))), (.d (.sc (.int .i64 0)))] [(0, 1, (.c (.d (.sc (.int .u8 1))))), (1, 1, (.c (.d (.sc (.int .u64 256))))), (2, 1, (.t 83))], none, 0, 0⟩,
      ⟨(some 85), .buildSlice 6 16 [(.sc (.int .u8 0)), (.sc (.int .u64 0)), (.sc (.int .u64 0)), (.sc (.int .u64 0)), (.sc (.int .u64 0)), (.sc (.int .i64 0))] [(0, (.t 43)), (1, (.t 46)), (2, (.t 49)), (3, (.t 52)), (4, (.t 55)), (5, (.t 58)), (6, (.t 61)), (7, (.t 64)), (8, (.t 67)), (9, (.t 70)), (10, (.t 73)), (11, (.t 74)), (12, (.t 76)), (13, (.t 78)), (14, (.t 80)), (15, (.t 84))], none, 0, 0⟩,
      ⟨(some 2), .mov (.t 85), none, 0, 0⟩] false)
    (.seq
     (.seq
      (.region [⟨(some 3), .mov (.c (.d (.sc (.int .i64 0)))), none, 0, 0⟩] false)
      (.block 0
       (.loop
        (.seq
         (.seq
          (.region [⟨(some 86), .mov (.t 3), none, 0, 0⟩,
            ⟨(some 87), .mov (.t 2), none, 0, 0⟩,
            ⟨(some 88), .len (.t 87), none, 0, 0⟩,
            ⟨(some 89), .bin .lss (.t 86) (.t 88), none, 0, 0⟩] false)
          (.cond (.t 89)
           .skip
           (.exit 0)))
         (.seq
          (.block 1
           (.seq
            (.region [⟨(some 92), .mov (.t 2), none, 0, 0⟩,
              ⟨(some 93), .mov (.t 3), none, 0, 0⟩,
              ⟨(some 94), .indexAddr 6 (.t 92) (.t 93), none, 0, 0⟩,
              ⟨(some 95), .load 6 true (.t 94), none, 0, 0⟩,
              ⟨(some 96), .buildSlice 6 1 [(.sc (.int .u8 0)), (.sc (.int .u64 0)), (.sc (.int .u64 0)), (.sc (.int .u64 0)), (.sc (.int .u64 0)), (.sc (.int .i64 0))] [(0, (.t 95))], none, 0, 0⟩,
              ⟨(some 4), .mov (.t 96), none, 0, 0⟩] false)
            (.seq
             (.region [⟨(some 98), .mov (.t 4), none, 0, 0⟩,
               ⟨(some 99), .call 11 [(.t 98)], none, 0, 0⟩,
               ⟨(some 97), .mov (.t 99), none, 0, 0⟩,
               ⟨(some 100), .extract (.t 97) 0, none, 0, 0⟩,
               ⟨(some 101), .extract (.t 97) 1, none, 0, 0⟩,
               ⟨(some 5), .mov (.t 100), none, 0, 0⟩,
               ⟨(some 6), .mov (.t 101), none, 0, 0⟩] false)
             (.seq
              (.region [⟨(some 103), .mov (.t 4), none, 0, 0⟩,
                ⟨(some 104), .call 19 [(.t 103), (.c (.d (.sc (.int .i64 1)))), (.c (.d (.sc (.int .i64 0))))], none, 0, 0⟩,
                ⟨(some 102), .mov (.t 104), none, 0, 0⟩,
                ⟨(some 105), .extract (.t 102) 0, none, 0, 0⟩,
                ⟨(some 106), .extract (.t 102) 1, none, 0, 0⟩,
                ⟨(some 7), .mov (.t 105), none, 0, 0⟩,
                ⟨(some 8), .mov (.t 106), none, 0, 0⟩] false)
              (.seq
               (.region [⟨(some 108), .mov (.t 4), none, 0, 0⟩,
                 ⟨(some 109), .call 17 [(.t 108), (.c (.d (.sc (.int .i64 0))))], none, 0, 0⟩,
                 ⟨(some 107), .mov (.t 109), none, 0, 0⟩,
                 ⟨(some 110), .extract (.t 107) 0, none, 0, 0⟩,
                 ⟨(some 111), .extract (.t 107) 1, none, 0, 0⟩,
                 ⟨(some 112), .extract (.t 107) 2, none, 0, 0⟩,
                 ⟨(some 9), .mov (.t 110), none, 0, 0⟩,
                 ⟨(some 10), .mov (.t 111), none, 0, 0⟩,
                 ⟨(some 11), .mov (.t 112), none, 0, 0⟩] false)
               (.seq
                (.region [⟨(some 114), .mov (.t 4), none, 0, 0⟩,
                  ⟨(some 115), .call 22 [(.t 114), (.c (.d (.sc (.int .i64 1))))], none, 0, 0⟩,
                  ⟨(some 113), .mov (.t 115), none, 0, 0⟩,
                  ⟨(some 116), .extract (.t 113) 0, none, 0, 0⟩,
                  ⟨(some 117), .extract (.t 113) 1, none, 0, 0⟩,
                  ⟨(some 12), .mov (.t 116), none, 0, 0⟩,
                  ⟨(some 13), .mov (.t 117), none, 0, 0⟩] false)
                (.seq
                 (.region [⟨(some 118), .mov (.t 4), none, 0, 0⟩,
                   ⟨(some 119), .call 13 [(.t 118)], none, 0, 0⟩,
                   ⟨(some 120), .bin .neq (.t 119) (.c (.d (.sc (.int .i64 8)))), none, 0, 0⟩,
                   ⟨(some 121), .mov (.t 120), none, 0, 0⟩,
                   ⟨(some 122), .mov (.t 6), (some (121, false)), 0, 0⟩,
                   ⟨(some 123), .bin .neq (.t 122) (.c (.d (.sc (.int .i64 8)))), (some (121, false)), 0, 0⟩,
                   ⟨(some 124), .pick (.t 121) (.c (.d (.sc (.bool true)))) (.t 123), none, 0, 0⟩,
                   ⟨(some 125), .mov (.t 124), none, 0, 0⟩,
                   ⟨(some 126), .mov (.t 8), (some (125, false)), 0, 0⟩,
                   ⟨(some 127), .bin .neq (.t 126) (.c (.d (.sc (.int .i64 8)))), (some (125, false)), 0, 0⟩,
                   ⟨(some 128), .pick (.t 125) (.c (.d (.sc (.bool true)))) (.t 127), none, 0, 0⟩,
                   ⟨(some 129), .mov (.t 128), none, 0, 0⟩,
                   ⟨(some 130), .mov (.t 11), (some (129, false)), 0, 0⟩,
                   ⟨(some 131), .bin .neq (.t 130) (.c (.d (.sc (.int .i64 8)))), (some (129, false)), 0, 0⟩,
                   ⟨(some 132), .pick (.t 129) (.c (.d (.sc (.bool true)))) (.t 131), none, 0, 0⟩,
                   ⟨(some 133), .mov (.t 132), none, 0, 0⟩,
                   ⟨(some 134), .mov (.t 13), (some (133, false)), 0, 0⟩,
                   ⟨(some 135), .bin .neq (.t 134) (.c (.d (.sc (.int .i64 8)))), (some (133, false)), 0, 0⟩,
                   ⟨(some 136), .pick (.t 133) (.c (.d (.sc (.bool true)))) (.t 135), none, 0, 0⟩] false)
                 (.cond (.t 136)
                  (.seq
                   (.region [⟨(some 0), .mov (.c (.d (.sc (.bool false)))), none, 0, 0⟩] false)
                   .ret)
                  .skip))))))))
          (.region [⟨(some 90), .mov (.t 3), none, 0, 0⟩,
            ⟨(some 91), .bin .add (.t 90) (.c (.d (.sc (.int .i64 1)))), none, 0, 0⟩,
            ⟨(some 3), .mov (.t 91), none, 0, 0⟩] false))))))
     (.seq
      (.region [⟨(some 137), .mov (.t 1), none, 0, 0⟩,
        ⟨(some 138), .bin .add (.t 137) (.c (.d (.sc (.int .u64 4096)))), none, 0, 0⟩,
        ⟨(some 139), .build [(.d (.sc (.int .u8 0))), (.d (.sc (.int .u64 0))), (.d (.sc (.int .u64 0))), (.d (.sc (.int .u64 0))), (.d (.sc (.int .u64 0))), (.d (.sc (.int .i64 0)))] [(0, 1, (.c (.d (.sc (.int .u8 1))))), (1, 1, (.c (.d (.sc (.int .u64 8447))))), (2, 1, (.t 138)), (3, 1, (.c (.d (.sc (.int .u64 65536))))), (4, 1, (.c (.d (.sc (.int .u64 65592)))))], none, 0, 0⟩,
        ⟨(some 140), .mov (.t 1), none, 0, 0⟩,
        ⟨(some 141), .bin .mul (.c (.d (.sc (.int .u64 2)))) (.t 140), none, 0, 0⟩,
        ⟨(some 142), .bin .add (.t 141) (.c (.d (.sc (.int .u64 32)))), none, 0, 0⟩,
        ⟨(some 143), .build [(.d (.sc (.int .u8 0))), (.d (.sc (.int .u64 0))), (.d (.sc (.int .u64 0))), (.d (.sc (.int .u64 0))), (.d (.sc (.int .u64 0))), (.d (.sc (.int .i64 0)))] [(0, 1, (.c (.d (.sc (.int .u8 2))))), (1, 1, (.c (.d (.sc (.int .u64 300))))), (2, 1, (.t 142)), (5, 1, (.c (.d (.sc (.int .i64 (-3))))))], none, 0, 0⟩,
        ⟨(some 144), .mov (.t 1), none, 0, 0⟩,
        ⟨(some 145), .bin .mul (.c (.d (.sc (.int .u64 3)))) (.t 144), none, 0, 0⟩,
        ⟨(some 146), .build [(.d (.sc (.int .u8 0))), (.d (.sc (.int .u64 0))), (.d (.sc (.int .u64 0))), (.d (.sc (.int .u64 0))), (.d (.sc (.int .u64 0))), (.d (.sc (.int .i64 0)))] [(0, 1, (.c (.d (.sc (.int .u8 3))))), (2, 1, (.t 145))], none, 0, 0⟩,
        ⟨(some 147), .buildSlice 6 3 [(.sc (.int .u8 0)), (.sc (.int .u64 0)), (.sc (.int .u64 0)), (.sc (.int .u64 0)), (.sc (.int .u64 0)), (.sc (.int .i64 0))] [(0, (.t 139)), (1, (.t 143)), (2, (.t 146))], none, 0, 0⟩,
        ⟨(some 14), .mov (.t 147), none, 0, 0⟩] false)
      (.seq
       (.seq
        (.region [⟨(some 148), .mov (.t 14), none, 0, 0⟩,
          ⟨(some 149), .call 13 [(.t 148)], none, 0, 0⟩,
          ⟨(some 150), .bin .neq (.t 149) (.c (.d (.sc (.int .i64 0)))), none, 0, 0⟩,
          ⟨(some 151), .mov (.t 150), none, 0, 0⟩,
          ⟨(some 152), .call 13 [(.c (.own [] .full))], (some (151, false)), 0, 0⟩,
          ⟨(some 153), .bin .neq (.t 152) (.c (.d (.sc (.int .i64 8)))), (some (151, false)), 0, 0⟩,
          ⟨(some 154), .pick (.t 151) (.c (.d (.sc (.bool true)))) (.t 153), none, 0, 0⟩,
          ⟨(some 155), .mov (.t 154), none, 0, 0⟩,
          ⟨(some 156), .makeSlice 6 48 [(.sc (.int .u8 0)), (.sc (.int .u64 0)), (.sc (.int .u64 0)), (.sc (.int .u64 0)), (.sc (.int .u64 0)), (.sc (.int .i64 0))] (.c (.d (.sc (.int .i64 17)))) (.c (.d (.sc (.int .i64 17)))), (some (155, false)), 0, 0⟩,
          ⟨(some 157), .call 13 [(.t 156)], (some (155, false)), 0, 0⟩,
          ⟨(some 158), .bin .neq (.t 157) (.c (.d (.sc (.int .i64 8)))), (some (155, false)), 0, 0⟩,
          ⟨(some 159), .pick (.t 155) (.c (.d (.sc (.bool true)))) (.t 158), none, 0, 0⟩] false)
        (.cond (.t 159)
         (.seq
          (.region [⟨(some 0), .mov (.c (.d (.sc (.bool false)))), none, 0, 0⟩] false)
          .ret)
         .skip))
       (.seq
        (.region [⟨(some 161), .mov (.t 14), none, 0, 0⟩,
          ⟨(some 162), .call 19 [(.t 161), (.c (.d (.sc (.int .i64 (-1))))), (.c (.d (.sc (.int .i64 0))))], none, 0, 0⟩,
          ⟨(some 160), .mov (.t 162), none, 0, 0⟩,
          ⟨(some 163), .extract (.t 160) 0, none, 0, 0⟩,
          ⟨(some 164), .extract (.t 160) 1, none, 0, 0⟩,
          ⟨(some 15), .mov (.t 163), none, 0, 0⟩,
          ⟨(some 16), .mov (.t 164), none, 0, 0⟩] false)
        (.seq
         (.region [⟨(some 166), .mov (.t 14), none, 0, 0⟩,
           ⟨(some 167), .call 19 [(.t 166), (.c (.d (.sc (.int .i64 3)))), (.c (.d (.sc (.int .i64 0))))], none, 0, 0⟩,
           ⟨(some 165), .mov (.t 167), none, 0, 0⟩,
           ⟨(some 168), .extract (.t 165) 0, none, 0, 0⟩,
           ⟨(some 169), .extract (.t 165) 1, none, 0, 0⟩,
           ⟨(some 17), .mov (.t 168), none, 0, 0⟩,
           ⟨(some 18), .mov (.t 169), none, 0, 0⟩] false)
         (.seq
          (.region [⟨(some 171), .mov (.t 14), none, 0, 0⟩,
            ⟨(some 172), .call 19 [(.t 171), (.c (.d (.sc (.int .i64 1)))), (.c (.d (.sc (.int .i64 0))))], none, 0, 0⟩,
            ⟨(some 170), .mov (.t 172), none, 0, 0⟩,
            ⟨(some 173), .extract (.t 170) 0, none, 0, 0⟩,
            ⟨(some 174), .extract (.t 170) 1, none, 0, 0⟩,
            ⟨(some 19), .mov (.t 173), none, 0, 0⟩,
            ⟨(some 20), .mov (.t 174), none, 0, 0⟩] false)
          (.seq
           (.region [⟨(some 176), .mov (.t 14), none, 0, 0⟩,
             ⟨(some 177), .call 19 [(.t 176), (.c (.d (.sc (.int .i64 2)))), (.c (.d (.sc (.int .i64 0))))], none, 0, 0⟩,
             ⟨(some 175), .mov (.t 177), none, 0, 0⟩,
             ⟨(some 178), .extract (.t 175) 0, none, 0, 0⟩,
             ⟨(some 179), .extract (.t 175) 1, none, 0, 0⟩,
             ⟨(some 21), .mov (.t 178), none, 0, 0⟩,
             ⟨(some 22), .mov (.t 179), none, 0, 0⟩] false)
           (.seq
            (.region [⟨(some 181), .mov (.t 14), none, 0, 0⟩,
              ⟨(some 182), .call 22 [(.t 181), (.c (.d (.sc (.int .i64 3))))], none, 0, 0⟩,
              ⟨(some 180), .mov (.t 182), none, 0, 0⟩,
              ⟨(some 183), .extract (.t 180) 0, none, 0, 0⟩,
              ⟨(some 184), .extract (.t 180) 1, none, 0, 0⟩,
              ⟨(some 23), .mov (.t 183), none, 0, 0⟩,
              ⟨(some 24), .mov (.t 184), none, 0, 0⟩] false)
            (.seq
             (.region [⟨(some 186), .mov (.t 14), none, 0, 0⟩,
               ⟨(some 187), .call 22 [(.t 186), (.c (.d (.sc (.int .i64 2))))], none, 0, 0⟩,
               ⟨(some 185), .mov (.t 187), none, 0, 0⟩,
               ⟨(some 188), .extract (.t 185) 0, none, 0, 0⟩,
               ⟨(some 189), .extract (.t 185) 1, none, 0, 0⟩,
               ⟨(some 25), .mov (.t 188), none, 0, 0⟩,
               ⟨(some 26), .mov (.t 189), none, 0, 0⟩] false)
             (.seq
              (.region [⟨(some 191), .mov (.t 14), none, 0, 0⟩,
                ⟨(some 192), .call 22 [(.t 191), (.c (.d (.sc (.int .i64 1))))], none, 0, 0⟩,
                ⟨(some 190), .mov (.t 192), none, 0, 0⟩,
                ⟨(some 193), .extract (.t 190) 0, none, 0, 0⟩,
                ⟨(some 194), .extract (.t 190) 1, none, 0, 0⟩,
                ⟨(some 27), .mov (.t 193), none, 0, 0⟩,
                ⟨(some 28), .mov (.t 194), none, 0, 0⟩] false)
              (.seq
               (.region [⟨(some 196), .call 9 [(.c (.d (.sc (.int .i64 16)))), (.c (.d (.sc (.int .u64 256)))), (.c (.d (.sc (.int .i64 24))))], none, 0, 0⟩,
                 ⟨(some 195), .mov (.t 196), none, 0, 0⟩,
                 ⟨(some 197), .extract (.t 195) 0, none, 0, 0⟩,
                 ⟨(some 198), .extract (.t 195) 1, none, 0, 0⟩,
                 ⟨(some 29), .alloc [(.d (.sc (.int .u8 0))), (.d (.sc (.int .u64 0))), (.d (.sc (.int .u64 0))), (.d (.sc (.int .u64 0))), (.d (.sc (.int .u64 0))), (.d (.sc (.int .i64 0)))], none, 0, 0⟩,
                 ⟨none, .store 6 (.t 29) (.t 197), none, 0, 0⟩,
                 ⟨(some 30), .mov (.t 198), none, 0, 0⟩] false)
               (.seq
                (.region [⟨(some 200), .call 9 [(.c (.d (.sc (.int .i64 (-1))))), (.c (.d (.sc (.int .u64 256)))), (.c (.d (.sc (.int .i64 24))))], none, 0, 0⟩,
                  ⟨(some 199), .mov (.t 200), none, 0, 0⟩,
                  ⟨(some 201), .extract (.t 199) 0, none, 0, 0⟩,
                  ⟨(some 202), .extract (.t 199) 1, none, 0, 0⟩,
                  ⟨(some 31), .alloc [(.d (.sc (.int .u8 0))), (.d (.sc (.int .u64 0))), (.d (.sc (.int .u64 0))), (.d (.sc (.int .u64 0))), (.d (.sc (.int .u64 0))), (.d (.sc (.int .i64 0)))], none, 0, 0⟩,
                  ⟨none, .store 6 (.t 31) (.t 201), none, 0, 0⟩,
                  ⟨(some 32), .mov (.t 202), none, 0, 0⟩] false)
                (.seq
                 (.region [⟨(some 204), .call 9 [(.c (.d (.sc (.int .i64 0)))), (.c (.d (.sc (.int .u64 255)))), (.c (.d (.sc (.int .i64 24))))], none, 0, 0⟩,
                   ⟨(some 203), .mov (.t 204), none, 0, 0⟩,
                   ⟨(some 205), .extract (.t 203) 0, none, 0, 0⟩,
                   ⟨(some 206), .extract (.t 203) 1, none, 0, 0⟩,
                   ⟨(some 33), .alloc [(.d (.sc (.int .u8 0))), (.d (.sc (.int .u64 0))), (.d (.sc (.int .u64 0))), (.d (.sc (.int .u64 0))), (.d (.sc (.int .u64 0))), (.d (.sc (.int .i64 0)))], none, 0, 0⟩,
                   ⟨none, .store 6 (.t 33) (.t 205), none, 0, 0⟩,
                   ⟨(some 34), .mov (.t 206), none, 0, 0⟩] false)
                 (.seq
                  (.region [⟨(some 208), .call 9 [(.c (.d (.sc (.int .i64 0)))), (.c (.d (.sc (.int .u64 256)))), (.c (.d (.sc (.int .i64 16))))], none, 0, 0⟩,
                    ⟨(some 207), .mov (.t 208), none, 0, 0⟩,
                    ⟨(some 209), .extract (.t 207) 0, none, 0, 0⟩,
                    ⟨(some 210), .extract (.t 207) 1, none, 0, 0⟩,
                    ⟨(some 35), .alloc [(.d (.sc (.int .u8 0))), (.d (.sc (.int .u64 0))), (.d (.sc (.int .u64 0))), (.d (.sc (.int .u64 0))), (.d (.sc (.int .u64 0))), (.d (.sc (.int .i64 0)))], none, 0, 0⟩,
                    ⟨none, .store 6 (.t 35) (.t 209), none, 0, 0⟩,
                    ⟨(some 36), .mov (.t 210), none, 0, 0⟩] false)
                  (.seq
                   (.region [⟨(some 212), .call 9 [(.c (.d (.sc (.int .i64 0)))), (.c (.d (.sc (.int .u64 256)))), (.c (.d (.sc (.int .i64 4104))))], none, 0, 0⟩,
                     ⟨(some 211), .mov (.t 212), none, 0, 0⟩,
                     ⟨(some 213), .extract (.t 211) 0, none, 0, 0⟩,
                     ⟨(some 214), .extract (.t 211) 1, none, 0, 0⟩,
                     ⟨(some 37), .alloc [(.d (.sc (.int .u8 0))), (.d (.sc (.int .u64 0))), (.d (.sc (.int .u64 0))), (.d (.sc (.int .u64 0))), (.d (.sc (.int .u64 0))), (.d (.sc (.int .i64 0)))], none, 0, 0⟩,
                     ⟨none, .store 6 (.t 37) (.t 213), none, 0, 0⟩,
                     ⟨(some 38), .mov (.t 214), none, 0, 0⟩] false)
                   (.seq
                    (.region [⟨(some 216), .call 9 [(.c (.d (.sc (.int .i64 0)))), (.c (.d (.sc (.int .u64 256)))), (.c (.d (.sc (.int .i64 28))))], none, 0, 0⟩,
                      ⟨(some 215), .mov (.t 216), none, 0, 0⟩,
                      ⟨(some 217), .extract (.t 215) 0, none, 0, 0⟩,
                      ⟨(some 218), .extract (.t 215) 1, none, 0, 0⟩,
                      ⟨(some 39), .alloc [(.d (.sc (.int .u8 0))), (.d (.sc (.int .u64 0))), (.d (.sc (.int .u64 0))), (.d (.sc (.int .u64 0))), (.d (.sc (.int .u64 0))), (.d (.sc (.int .i64 0)))], none, 0, 0⟩,
                      ⟨none, .store 6 (.t 39) (.t 217), none, 0, 0⟩,
                      ⟨(some 40), .mov (.t 218), none, 0, 0⟩] false)
                    (.seq
                     (.region [⟨(some 220), .call 9 [(.c (.d (.sc (.int .i64 15)))), (.c (.d (.sc (.int .u64 8447)))), (.c (.d (.sc (.int .i64 4096))))], none, 0, 0⟩,
                       ⟨(some 219), .mov (.t 220), none, 0, 0⟩,
                       ⟨(some 221), .extract (.t 219) 0, none, 0, 0⟩,
                       ⟨(some 222), .extract (.t 219) 1, none, 0, 0⟩,
                       ⟨(some 41), .alloc [(.d (.sc (.int .u8 0))), (.d (.sc (.int .u64 0))), (.d (.sc (.int .u64 0))), (.d (.sc (.int .u64 0))), (.d (.sc (.int .u64 0))), (.d (.sc (.int .i64 0)))], none, 0, 0⟩,
                       ⟨none, .store 6 (.t 41) (.t 221), none, 0, 0⟩,
                       ⟨(some 42), .mov (.t 222), none, 0, 0⟩] false)
                     (.seq
                      (.region [⟨(some 223), .mov (.c (.d (.sc (.bool true)))), none, 0, 0⟩,
                        ⟨(some 224), .call 16 [], (some (223, true)), 0, 0⟩,
                        ⟨(some 225), .pick (.t 223) (.t 224) (.c (.d (.sc (.bool false)))), none, 0, 0⟩,
                        ⟨(some 226), .mov (.t 225), none, 0, 0⟩,
                        ⟨(some 227), .mov (.t 16), (some (226, true)), 0, 0⟩,
                        ⟨(some 228), .bin .eql (.t 227) (.c (.d (.sc (.int .i64 2)))), (some (226, true)), 0, 0⟩,
                        ⟨(some 229), .pick (.t 226) (.t 228) (.c (.d (.sc (.bool false)))), none, 0, 0⟩,
                        ⟨(some 230), .mov (.t 229), none, 0, 0⟩,
                        ⟨(some 231), .mov (.t 18), (some (230, true)), 0, 0⟩,
                        ⟨(some 232), .bin .eql (.t 231) (.c (.d (.sc (.int .i64 2)))), (some (230, true)), 0, 0⟩,
                        ⟨(some 233), .pick (.t 230) (.t 232) (.c (.d (.sc (.bool false)))), none, 0, 0⟩,
                        ⟨(some 234), .mov (.t 233), none, 0, 0⟩,
                        ⟨(some 235), .mov (.t 20), (some (234, true)), 0, 0⟩,
                        ⟨(some 236), .bin .eql (.t 235) (.c (.d (.sc (.int .i64 36)))), (some (234, true)), 0, 0⟩,
                        ⟨(some 237), .pick (.t 234) (.t 236) (.c (.d (.sc (.bool false)))), none, 0, 0⟩,
                        ⟨(some 238), .mov (.t 237), none, 0, 0⟩,
                        ⟨(some 239), .mov (.t 22), (some (238, true)), 0, 0⟩,
                        ⟨(some 240), .bin .eql (.t 239) (.c (.d (.sc (.int .i64 36)))), (some (238, true)), 0, 0⟩,
                        ⟨(some 241), .pick (.t 238) (.t 240) (.c (.d (.sc (.bool false)))), none, 0, 0⟩,
                        ⟨(some 242), .mov (.t 241), none, 0, 0⟩,
                        ⟨(some 243), .mov (.t 24), (some (242, true)), 0, 0⟩,
                        ⟨(some 244), .bin .eql (.t 243) (.c (.d (.sc (.int .i64 2)))), (some (242, true)), 0, 0⟩,
                        ⟨(some 245), .pick (.t 242) (.t 244) (.c (.d (.sc (.bool false)))), none, 0, 0⟩,
                        ⟨(some 246), .mov (.t 245), none, 0, 0⟩,
                        ⟨(some 247), .mov (.t 26), (some (246, true)), 0, 0⟩,
                        ⟨(some 248), .bin .eql (.t 247) (.c (.d (.sc (.int .i64 36)))), (some (246, true)), 0, 0⟩,
                        ⟨(some 249), .pick (.t 246) (.t 248) (.c (.d (.sc (.bool false)))), none, 0, 0⟩,
                        ⟨(some 250), .mov (.t 249), none, 0, 0⟩,
                        ⟨(some 251), .mov (.t 28), (some (250, true)), 0, 0⟩,
                        ⟨(some 252), .bin .eql (.t 251) (.c (.d (.sc (.int .i64 0)))), (some (250, true)), 0, 0⟩,
                        ⟨(some 253), .pick (.t 250) (.t 252) (.c (.d (.sc (.bool false)))), none, 0, 0⟩,
                        ⟨(some 254), .mov (.t 253), none, 0, 0⟩,
                        ⟨(some 255), .mov (.t 27), (some (254, true)), 0, 0⟩,
                        ⟨(some 256), .len (.t 255), (some (254, true)), 0, 0⟩,
                        ⟨(some 257), .bin .eql (.t 256) (.c (.d (.sc (.int .i64 3)))), (some (254, true)), 0, 0⟩,
                        ⟨(some 258), .pick (.t 254) (.t 257) (.c (.d (.sc (.bool false)))), none, 0, 0⟩,
                        ⟨(some 259), .mov (.t 258), none, 0, 0⟩,
                        ⟨(some 260), .mov (.t 27), (some (259, true)), 0, 0⟩,
                        ⟨(some 261), .indexAddr 6 (.t 260) (.c (.d (.sc (.int .i64 1)))), (some (259, true)), 0, 0⟩,
                        ⟨(some 262), .load 6 true (.t 261), (some (259, true)), 0, 0⟩,
                        ⟨(some 263), .mov (.t 1), (some (259, true)), 0, 0⟩,
                        ⟨(some 264), .bin .mul (.c (.d (.sc (.int .u64 2)))) (.t 263), (some (259, true)), 0, 0⟩,
                        ⟨(some 265), .build [(.d (.sc (.int .u8 0))), (.d (.sc (.int .u64 0))), (.d (.sc (.int .u64 0))), (.d (.sc (.int .u64 0))), (.d (.sc (.int .u64 0))), (.d (.sc (.int .i64 0)))] [(0, 1, (.c (.d (.sc (.int .u8 3))))), (2, 1, (.t 264))], (some (259, true)), 0, 0⟩,
                        ⟨(some 266), .eqA false 6 [(0, 1), (1, 1), (2, 1), (3, 1), (4, 1), (5, 1)] (.t 262) (.t 265), (some (259, true)), 0, 0⟩,
                        ⟨(some 267), .pick (.t 259) (.t 266) (.c (.d (.sc (.bool false)))), none, 0, 0⟩,
                        ⟨(some 268), .mov (.t 267), none, 0, 0⟩,
                        ⟨(some 269), .mov (.t 30), (some (268, true)), 0, 0⟩,
                        ⟨(some 270), .bin .eql (.t 269) (.c (.d (.sc (.int .i64 2)))), (some (268, true)), 0, 0⟩,
                        ⟨(some 271), .pick (.t 268) (.t 270) (.c (.d (.sc (.bool false)))), none, 0, 0⟩,
                        ⟨(some 272), .mov (.t 271), none, 0, 0⟩,
                        ⟨(some 273), .mov (.t 32), (some (272, true)), 0, 0⟩,
                        ⟨(some 274), .bin .eql (.t 273) (.c (.d (.sc (.int .i64 2)))), (some (272, true)), 0, 0⟩,
                        ⟨(some 275), .pick (.t 272) (.t 274) (.c (.d (.sc (.bool false)))), none, 0, 0⟩,
                        ⟨(some 276), .mov (.t 275), none, 0, 0⟩,
                        ⟨(some 277), .mov (.t 34), (some (276, true)), 0, 0⟩,
                        ⟨(some 278), .bin .eql (.t 277) (.c (.d (.sc (.int .i64 2)))), (some (276, true)), 0, 0⟩,
                        ⟨(some 279), .pick (.t 276) (.t 278) (.c (.d (.sc (.bool false)))), none, 0, 0⟩,
                        ⟨(some 280), .mov (.t 279), none, 0, 0⟩,
                        ⟨(some 281), .mov (.t 36), (some (280, true)), 0, 0⟩,
                        ⟨(some 282), .bin .eql (.t 281) (.c (.d (.sc (.int .i64 2)))), (some (280, true)), 0, 0⟩,
                        ⟨(some 283), .pick (.t 280) (.t 282) (.c (.d (.sc (.bool false)))), none, 0, 0⟩,
                        ⟨(some 284), .mov (.t 283), none, 0, 0⟩,
                        ⟨(some 285), .mov (.t 38), (some (284, true)), 0, 0⟩,
                        ⟨(some 286), .bin .eql (.t 285) (.c (.d (.sc (.int .i64 2)))), (some (284, true)), 0, 0⟩,
                        ⟨(some 287), .pick (.t 284) (.t 286) (.c (.d (.sc (.bool false)))), none, 0, 0⟩,
                        ⟨(some 288), .mov (.t 287), none, 0, 0⟩,
                        ⟨(some 289), .mov (.t 40), (some (288, true)), 0, 0⟩,
                        ⟨(some 290), .bin .eql (.t 289) (.c (.d (.sc (.int .i64 2)))), (some (288, true)), 0, 0⟩,
                        ⟨(some 291), .pick (.t 288) (.t 290) (.c (.d (.sc (.bool false)))), none, 0, 0⟩,
                        ⟨(some 292), .mov (.t 291), none, 0, 0⟩,
                        ⟨(some 293), .mov (.t 42), (some (292, true)), 0, 0⟩,
                        ⟨(some 294), .bin .eql (.t 293) (.c (.d (.sc (.int .i64 0)))), (some (292, true)), 0, 0⟩,
                        ⟨(some 295), .pick (.t 292) (.t 294) (.c (.d (.sc (.bool false)))), none, 0, 0⟩,
                        ⟨(some 296), .mov (.t 295), none, 0, 0⟩,
                        ⟨(some 297), .load 6 true (.t 41), (some (296, true)), 0, 0⟩,
                        ⟨(some 298), .mov (.t 1), (some (296, true)), 0, 0⟩,
                        ⟨(some 299), .bin .mul (.c (.d (.sc (.int .u64 16)))) (.t 298), (some (296, true)), 0, 0⟩,
                        ⟨(some 300), .bin .add (.t 299) (.c (.d (.sc (.int .u64 4096)))), (some (296, true)), 0, 0⟩,
                        ⟨(some 301), .build [(.d (.sc (.int .u8 0))), (.d (.sc (.int .u64 0))), (.d (.sc (.int .u64 0))), (.d (.sc (.int .u64 0))), (.d (.sc (.int .u64 0))), (.d (.sc (.int .i64 0)))] [(0, 1, (.c (.d (.sc (.int .u8 1))))), (1, 1, (.c (.d (.sc (.int .u64 8447))))), (2, 1, (.t 300))], (some (296, true)), 0, 0⟩,
                        ⟨(some 302), .eqA false 6 [(0, 1), (1, 1), (2, 1), (3, 1), (4, 1), (5, 1)] (.t 297) (.t 301), (some (296, true)), 0, 0⟩,
                        ⟨(some 303), .pick (.t 296) (.t 302) (.c (.d (.sc (.bool false)))), none, 0, 0⟩,
                        ⟨(some 0), .mov (.t 303), none, 0, 0⟩] false)
                      .ret))))))))))))))))))))), false⟩
/-- wreckage/routine.New -/
def t9 : AFn := ⟨3, 40, [.cell 6 6 true, .t 7],
 (.seq
  (.region [⟨(some 6), .alloc [(.d (.sc (.int .u8 0))), (.d (.sc (.int .u64 0))), (.d (.sc (.int .u64 0))), (.d (.sc (.int .u64 0))), (.d (.sc (.int .u64 0))), (.d (.sc (.int .i64 0)))], none, 0, 0⟩,
    ⟨(some 7), .mov (.c (.d (.sc (.int .i64 0)))), none, 0, 0⟩] false)
  (.seq
   (.seq
    (.region [⟨(some 8), .mov (.t 0), none, 0, 0⟩,
      ⟨(some 9), .bin .lss (.t 8) (.c (.d (.sc (.int .i64 0)))), none, 0, 0⟩,
      ⟨(some 10), .mov (.t 9), none, 0, 0⟩,
      ⟨(some 11), .mov (.t 0), (some (10, false)), 0, 0⟩,
      ⟨(some 12), .bin .geq (.t 11) (.c (.d (.sc (.int .i64 16)))), (some (10, false)), 0, 0⟩,
      ⟨(some 13), .pick (.t 10) (.c (.d (.sc (.bool true)))) (.t 12), none, 0, 0⟩,
      ⟨(some 14), .mov (.t 13), none, 0, 0⟩,
      ⟨(some 15), .mov (.t 1), (some (14, false)), 0, 0⟩,
      ⟨(some 16), .call 25 [(.t 15)], (some (14, false)), 0, 0⟩,
      ⟨(some 17), .un .not (.t 16), (some (14, false)), 0, 0⟩,
      ⟨(some 18), .pick (.t 14) (.c (.d (.sc (.bool true)))) (.t 17), none, 0, 0⟩,
      ⟨(some 19), .mov (.t 18), none, 0, 0⟩,
      ⟨(some 20), .mov (.t 2), (some (19, false)), 0, 0⟩,
      ⟨(some 21), .bin .rem (.t 20) (.c (.d (.sc (.int .i64 8)))), (some (19, false)), 0, 0⟩,
      ⟨(some 22), .bin .neq (.t 21) (.c (.d (.sc (.int .i64 0)))), (some (19, false)), 0, 0⟩,
      ⟨(some 23), .pick (.t 19) (.c (.d (.sc (.bool true)))) (.t 22), none, 0, 0⟩,
      ⟨(some 24), .mov (.t 23), none, 0, 0⟩,
      ⟨(some 25), .mov (.t 2), (some (24, false)), 0, 0⟩,
      ⟨(some 26), .bin .lss (.t 25) (.c (.d (.sc (.int .i64 24)))), (some (24, false)), 0, 0⟩,
      ⟨(some 27), .pick (.t 24) (.c (.d (.sc (.bool true)))) (.t 26), none, 0, 0⟩,
      ⟨(some 28), .mov (.t 27), none, 0, 0⟩,
      ⟨(some 29), .mov (.t 2), (some (28, false)), 0, 0⟩,
      ⟨(some 30), .bin .gtr (.t 29) (.c (.d (.sc (.int .i64 4096)))), (some (28, false)), 0, 0⟩,
      ⟨(some 31), .pick (.t 28) (.c (.d (.sc (.bool true)))) (.t 30), none, 0, 0⟩] false)
    (.cond (.t 31)
     (.seq
      (.region [⟨(some 32), .build [(.d (.sc (.int .u8 0))), (.d (.sc (.int .u64 0))), (.d (.sc (.int .u64 0))), (.d (.sc (.int .u64 0))), (.d (.sc (.int .u64 0))), (.d (.sc (.int .i64 0)))] [], none, 0, 0⟩,
        ⟨none, .store 6 (.t 6) (.t 32), none, 0, 0⟩,
        ⟨(some 7), .mov (.c (.d (.sc (.int .i64 2)))), none, 0, 0⟩] false)
      .ret)
     .skip))
   (.seq
    (.region [⟨(some 33), .mov (.t 1), none, 0, 0⟩,
      ⟨(some 34), .mov (.t 0), none, 0, 0⟩,
      ⟨(some 35), .call 26 [(.t 34)], none, 0, 0⟩,
      ⟨(some 36), .mov (.t 2), none, 0, 0⟩,
      ⟨(some 37), .conv .u64 (.t 36), none, 0, 0⟩,
      ⟨(some 38), .bin .add (.t 35) (.t 37), none, 0, 0⟩,
      ⟨(some 39), .build [(.d (.sc (.int .u8 0))), (.d (.sc (.int .u64 0))), (.d (.sc (.int .u64 0))), (.d (.sc (.int .u64 0))), (.d (.sc (.int .u64 0))), (.d (.sc (.int .i64 0)))] [(0, 1, (.c (.d (.sc (.int .u8 1))))), (1, 1, (.t 33)), (2, 1, (.t 38))], none, 0, 0⟩,
      ⟨none, .store 6 (.t 6) (.t 39), none, 0, 0⟩,
      ⟨(some 7), .mov (.c (.d (.sc (.int .i64 0)))), none, 0, 0⟩] false)
    .ret))), false⟩
/-- wreckage/wreckageref19.New -/
def t10 : AFn := ⟨3, 40, [.cell 6 6 true, .t 7],
 (.seq
  (.region [⟨(some 6), .alloc [(.d (.sc (.int .u8 0))), (.d (.sc (.int .u64 0))), (.d (.sc (.int .u64 0))), (.d (.sc (.int .u64 0))), (.d (.sc (.int .u64 0))), (.d (.sc (.int .i64 0)))], none, 0, 0⟩,
    ⟨(some 7), .mov (.c (.d (.sc (.int .i64 0)))), none, 0, 0⟩] false)
  (.seq
   (.seq
    (.region [⟨(some 8), .mov (.t 0), none, 0, 0⟩,
      ⟨(some 9), .bin .lss (.t 8) (.c (.d (.sc (.int .i64 0)))), none, 0, 0⟩,
      ⟨(some 10), .mov (.t 9), none, 0, 0⟩,
      ⟨(some 11), .mov (.t 0), (some (10, false)), 0, 0⟩,
      ⟨(some 12), .bin .geq (.t 11) (.c (.d (.sc (.int .i64 16)))), (some (10, false)), 0, 0⟩,
      ⟨(some 13), .pick (.t 10) (.c (.d (.sc (.bool true)))) (.t 12), none, 0, 0⟩,
      ⟨(some 14), .mov (.t 13), none, 0, 0⟩,
      ⟨(some 15), .mov (.t 1), (some (14, false)), 0, 0⟩,
      ⟨(some 16), .call 27 [(.t 15)], (some (14, false)), 0, 0⟩,
      ⟨(some 17), .un .not (.t 16), (some (14, false)), 0, 0⟩,
      ⟨(some 18), .pick (.t 14) (.c (.d (.sc (.bool true)))) (.t 17), none, 0, 0⟩,
      ⟨(some 19), .mov (.t 18), none, 0, 0⟩,
      ⟨(some 20), .mov (.t 2), (some (19, false)), 0, 0⟩,
      ⟨(some 21), .bin .lss (.t 20) (.c (.d (.sc (.int .i64 24)))), (some (19, false)), 0, 0⟩,
      ⟨(some 22), .pick (.t 19) (.c (.d (.sc (.bool true)))) (.t 21), none, 0, 0⟩,
      ⟨(some 23), .mov (.t 22), none, 0, 0⟩,
      ⟨(some 24), .mov (.t 2), (some (23, false)), 0, 0⟩,
      ⟨(some 25), .bin .gtr (.t 24) (.c (.d (.sc (.int .i64 4096)))), (some (23, false)), 0, 0⟩,
      ⟨(some 26), .pick (.t 23) (.c (.d (.sc (.bool true)))) (.t 25), none, 0, 0⟩,
      ⟨(some 27), .mov (.t 26), none, 0, 0⟩,
      ⟨(some 28), .mov (.t 2), (some (27, false)), 0, 0⟩,
      ⟨(some 29), .bin .rem (.t 28) (.c (.d (.sc (.int .i64 8)))), (some (27, false)), 0, 0⟩,
      ⟨(some 30), .bin .neq (.t 29) (.c (.d (.sc (.int .i64 0)))), (some (27, false)), 0, 0⟩,
      ⟨(some 31), .pick (.t 27) (.c (.d (.sc (.bool true)))) (.t 30), none, 0, 0⟩] false)
    (.cond (.t 31)
     (.seq
      (.region [⟨(some 32), .build [(.d (.sc (.int .u8 0))), (.d (.sc (.int .u64 0))), (.d (.sc (.int .u64 0))), (.d (.sc (.int .u64 0))), (.d (.sc (.int .u64 0))), (.d (.sc (.int .i64 0)))] [], none, 0, 0⟩,
        ⟨none, .store 6 (.t 6) (.t 32), none, 0, 0⟩,
        ⟨(some 7), .mov (.c (.d (.sc (.int .i64 2)))), none, 0, 0⟩] false)
      .ret)
     .skip))
   (.seq
    (.region [⟨(some 33), .mov (.t 1), none, 0, 0⟩,
      ⟨(some 34), .mov (.t 0), none, 0, 0⟩,
      ⟨(some 35), .call 28 [(.t 34)], none, 0, 0⟩,
      ⟨(some 36), .mov (.t 2), none, 0, 0⟩,
      ⟨(some 37), .conv .u64 (.t 36), none, 0, 0⟩,
      ⟨(some 38), .bin .add (.t 35) (.t 37), none, 0, 0⟩,
      ⟨(some 39), .build [(.d (.sc (.int .u8 0))), (.d (.sc (.int .u64 0))), (.d (.sc (.int .u64 0))), (.d (.sc (.int .u64 0))), (.d (.sc (.int .u64 0))), (.d (.sc (.int .i64 0)))] [(0, 1, (.c (.d (.sc (.int .u8 1))))), (1, 1, (.t 33)), (2, 1, (.t 38))], none, 0, 0⟩,
      ⟨none, .store 6 (.t 6) (.t 39), none, 0, 0⟩,
      ⟨(some 7), .mov (.c (.d (.sc (.int .i64 0)))), none, 0, 0⟩] false)
    .ret))), false⟩
/-- wreckage/routine.Ready -/
def t11 : AFn := ⟨1, 29, [.t 2, .t 3],
 (.seq
  (.region [⟨(some 2), .mov (.c (.own [] .full)), none, 0, 0⟩,
    ⟨(some 3), .mov (.c (.d (.sc (.int .i64 0)))), none, 0, 0⟩] false)
  (.seq
   (.seq
    (.region [⟨(some 8), .mov (.t 0), none, 0, 0⟩,
      ⟨(some 9), .call 13 [(.t 8)], none, 0, 0⟩,
      ⟨(some 4), .mov (.t 9), none, 0, 0⟩] false)
    (.seq
     (.region [⟨(some 10), .mov (.t 4), none, 0, 0⟩,
       ⟨(some 11), .bin .neq (.t 10) (.c (.d (.sc (.int .i64 0)))), none, 0, 0⟩] false)
     (.cond (.t 11)
      (.seq
       (.region [⟨(some 12), .mov (.t 4), none, 0, 0⟩,
         ⟨(some 2), .mov (.c (.own [] .full)), none, 0, 0⟩,
         ⟨(some 3), .mov (.t 12), none, 0, 0⟩] false)
       .ret)
      .skip)))
   (.seq
    (.region [⟨(some 5), .mov (.c (.own [] .full)), none, 0, 0⟩] false)
    (.seq
     (.seq
      (.region [⟨(some 13), .mov (.t 0), none, 0, 0⟩,
        ⟨(some 14), .len (.t 13), none, 0, 0⟩,
        ⟨(some 15), .mov (.c (.d (.sc (.int .i64 0)))), none, 0, 0⟩] false)
      (.block 0
       (.loop
        (.seq
         (.region [⟨(some 16), .bin .lss (.t 15) (.t 14), none, 0, 0⟩] false)
         (.seq
          (.cond (.t 16)
           .skip
           (.exit 0))
          (.seq
           (.block 1
            (.seq
             (.region [⟨(some 17), .mov (.t 15), none, 0, 0⟩,
               ⟨(some 18), .indexAddr 6 (.t 13) (.t 15), none, 0, 0⟩,
               ⟨(some 19), .load 6 true (.t 18), none, 0, 0⟩,
               ⟨(some 7), .alloc [(.d (.sc (.int .u8 0))), (.d (.sc (.int .u64 0))), (.d (.sc (.int .u64 0))), (.d (.sc (.int .u64 0))), (.d (.sc (.int .u64 0))), (.d (.sc (.int .i64 0)))], none, 0, 0⟩,
               ⟨(some 6), .mov (.t 17), none, 0, 0⟩,
               ⟨none, .store 6 (.t 7) (.t 19), none, 0, 0⟩] false)
             (.seq
              (.region [⟨(some 20), .fieldAddr 0 (.t 7), none, 0, 0⟩,
                ⟨(some 21), .load 1 false (.t 20), none, 0, 0⟩,
                ⟨(some 22), .bin .eql (.t 21) (.c (.d (.sc (.int .u8 1)))), none, 0, 0⟩] false)
              (.cond (.t 22)
               (.region [⟨(some 23), .mov (.t 5), none, 0, 0⟩,
                 ⟨(some 24), .mov (.t 6), none, 0, 0⟩,
                 ⟨(some 25), .buildSlice 1 1 [(.sc (.int .i64 0))] [(0, (.t 24))], none, 0, 0⟩,
                 ⟨(some 26), .append 1 8 (.t 23) (.t 25), none, 0, 0⟩,
                 ⟨(some 5), .mov (.t 26), none, 0, 0⟩] false)
               .skip))))
           (.region [⟨(some 27), .bin .add (.t 15) (.c (.d (.sc (.int .i64 1)))), none, 0, 0⟩,
             ⟨(some 15), .mov (.t 27), none, 0, 0⟩] false)))))))
     (.seq
      (.region [⟨(some 28), .mov (.t 5), none, 0, 0⟩,
        ⟨(some 2), .mov (.t 28), none, 0, 0⟩,
        ⟨(some 3), .mov (.c (.d (.sc (.int .i64 0)))), none, 0, 0⟩] false)
      .ret))))), false⟩
/-- wreckage/routine.Check -/
def t13 : AFn := ⟨1, 25, [.t 2],
 (.seq
  (.region [⟨(some 2), .mov (.c (.d (.sc (.int .i64 0)))), none, 0, 0⟩] false)
  (.seq
   (.seq
    (.region [⟨(some 5), .mov (.t 0), none, 0, 0⟩,
      ⟨(some 6), .len (.t 5), none, 0, 0⟩,
      ⟨(some 7), .bin .lss (.t 6) (.c (.d (.sc (.int .i64 1)))), none, 0, 0⟩,
      ⟨(some 8), .mov (.t 7), none, 0, 0⟩,
      ⟨(some 9), .mov (.t 0), (some (8, false)), 0, 0⟩,
      ⟨(some 10), .len (.t 9), (some (8, false)), 0, 0⟩,
      ⟨(some 11), .bin .gtr (.t 10) (.c (.d (.sc (.int .i64 16)))), (some (8, false)), 0, 0⟩,
      ⟨(some 12), .pick (.t 8) (.c (.d (.sc (.bool true)))) (.t 11), none, 0, 0⟩] false)
    (.cond (.t 12)
     (.seq
      (.region [⟨(some 2), .mov (.c (.d (.sc (.int .i64 8)))), none, 0, 0⟩] false)
      .ret)
     .skip))
   (.seq
    (.seq
     (.region [⟨(some 13), .mov (.t 0), none, 0, 0⟩,
       ⟨(some 14), .len (.t 13), none, 0, 0⟩,
       ⟨(some 15), .mov (.c (.d (.sc (.int .i64 0)))), none, 0, 0⟩] false)
     (.block 0
      (.loop
       (.seq
        (.region [⟨(some 16), .bin .lss (.t 15) (.t 14), none, 0, 0⟩] false)
        (.seq
         (.cond (.t 16)
          .skip
          (.exit 0))
         (.seq
          (.block 1
           (.seq
            (.region [⟨(some 17), .mov (.t 15), none, 0, 0⟩,
              ⟨(some 18), .indexAddr 6 (.t 13) (.t 15), none, 0, 0⟩,
              ⟨(some 19), .load 6 true (.t 18), none, 0, 0⟩,
              ⟨(some 4), .alloc [(.d (.sc (.int .u8 0))), (.d (.sc (.int .u64 0))), (.d (.sc (.int .u64 0))), (.d (.sc (.int .u64 0))), (.d (.sc (.int .u64 0))), (.d (.sc (.int .i64 0)))], none, 0, 0⟩,
              ⟨(some 3), .mov (.t 17), none, 0, 0⟩,
              ⟨none, .store 6 (.t 4) (.t 19), none, 0, 0⟩] false)
            (.seq
             (.region [⟨(some 20), .mov (.t 3), none, 0, 0⟩,
               ⟨(some 21), .load 6 true (.t 4), none, 0, 0⟩,
               ⟨(some 22), .call 30 [(.t 20), (.t 21)], none, 0, 0⟩,
               ⟨(some 23), .un .not (.t 22), none, 0, 0⟩] false)
             (.cond (.t 23)
              (.seq
               (.region [⟨(some 2), .mov (.c (.d (.sc (.int .i64 8)))), none, 0, 0⟩] false)
               .ret)
              .skip))))
          (.region [⟨(some 24), .bin .add (.t 15) (.c (.d (.sc (.int .i64 1)))), none, 0, 0⟩,
            ⟨(some 15), .mov (.t 24), none, 0, 0⟩] false)))))))
    (.seq
     (.region [⟨(some 2), .mov (.c (.d (.sc (.int .i64 0)))), none, 0, 0⟩] false)
     .ret)))), false⟩
/-- wreckage/wreckageref19.SameNumbers -/
def t15 : AFn := ⟨2, 26, [.t 4],
 (.seq
  (.region [⟨(some 4), .mov (.c (.d (.sc (.bool false)))), none, 0, 0⟩] false)
  (.seq
   (.seq
    (.region [⟨(some 6), .mov (.t 0), none, 0, 0⟩,
      ⟨(some 7), .len (.t 6), none, 0, 0⟩,
      ⟨(some 8), .mov (.t 1), none, 0, 0⟩,
      ⟨(some 9), .len (.t 8), none, 0, 0⟩,
      ⟨(some 10), .bin .neq (.t 7) (.t 9), none, 0, 0⟩] false)
    (.cond (.t 10)
     (.seq
      (.region [⟨(some 4), .mov (.c (.d (.sc (.bool false)))), none, 0, 0⟩] false)
      .ret)
     .skip))
   (.seq
    (.seq
     (.region [⟨(some 5), .mov (.c (.d (.sc (.int .i64 0)))), none, 0, 0⟩] false)
     (.block 0
      (.loop
       (.seq
        (.seq
         (.region [⟨(some 11), .mov (.t 5), none, 0, 0⟩,
           ⟨(some 12), .mov (.t 0), none, 0, 0⟩,
           ⟨(some 13), .len (.t 12), none, 0, 0⟩,
           ⟨(some 14), .bin .lss (.t 11) (.t 13), none, 0, 0⟩] false)
         (.cond (.t 14)
          .skip
          (.exit 0)))
        (.seq
         (.block 1
          (.seq
           (.region [⟨(some 17), .mov (.t 0), none, 0, 0⟩,
             ⟨(some 18), .mov (.t 5), none, 0, 0⟩,
             ⟨(some 19), .indexAddr 1 (.t 17) (.t 18), none, 3, 0⟩,
             ⟨(some 20), .load 1 false (.t 19), none, 7, 0⟩,
             ⟨(some 21), .mov (.t 1), none, 0, 0⟩,
             ⟨(some 22), .mov (.t 5), none, 0, 0⟩,
             ⟨(some 23), .indexAddr 1 (.t 21) (.t 22), none, 48, 0⟩,
             ⟨(some 24), .load 1 false (.t 23), none, 112, 0⟩,
             ⟨(some 25), .bin .neq (.t 20) (.t 24), none, 255, 0⟩] true)
           (.cond (.t 25)
            (.seq
             (.region [⟨(some 4), .mov (.c (.d (.sc (.bool false)))), none, 0, 0⟩] false)
             .ret)
            .skip)))
         (.region [⟨(some 15), .mov (.t 5), none, 0, 0⟩,
           ⟨(some 16), .bin .add (.t 15) (.c (.d (.sc (.int .i64 1)))), none, 0, 0⟩,
           ⟨(some 5), .mov (.t 16), none, 0, 0⟩] false))))))
    (.seq
     (.region [⟨(some 4), .mov (.c (.d (.sc (.bool true)))), none, 0, 0⟩] false)
     .ret)))), false⟩
/-- wreckage/wreckagelaw19.alive -/
def t16 : AFn := ⟨0, 83, [.t 0],
 (.seq
  (.region [⟨(some 0), .mov (.c (.d (.sc (.bool false)))), none, 0, 0⟩] false)
  (.seq
   (.region [⟨(some 16), .call 32 [], none, 0, 0⟩,
     ⟨(some 17), .call 17 [(.t 16), (.c (.d (.sc (.int .i64 5))))], none, 0, 0⟩,
     ⟨(some 15), .mov (.t 17), none, 0, 0⟩,
     ⟨(some 18), .extract (.t 15) 0, none, 0, 0⟩,
     ⟨(some 19), .extract (.t 15) 1, none, 0, 0⟩,
     ⟨(some 20), .extract (.t 15) 2, none, 0, 0⟩,
     ⟨(some 1), .mov (.t 18), none, 0, 0⟩,
     ⟨(some 2), .mov (.t 19), none, 0, 0⟩,
     ⟨(some 3), .mov (.t 20), none, 0, 0⟩] false)
   (.seq
    (.region [⟨(some 22), .mov (.t 1), none, 0, 0⟩,
      ⟨(some 23), .call 17 [(.t 22), (.c (.d (.sc (.int .i64 5))))], none, 0, 0⟩,
      ⟨(some 21), .mov (.t 23), none, 0, 0⟩,
      ⟨(some 24), .extract (.t 21) 0, none, 0, 0⟩,
      ⟨(some 25), .extract (.t 21) 1, none, 0, 0⟩,
      ⟨(some 26), .extract (.t 21) 2, none, 0, 0⟩,
      ⟨(some 4), .mov (.t 24), none, 0, 0⟩,
      ⟨(some 5), .mov (.t 25), none, 0, 0⟩,
      ⟨(some 6), .mov (.t 26), none, 0, 0⟩] false)
    (.seq
     (.region [⟨(some 28), .mov (.t 4), none, 0, 0⟩,
       ⟨(some 29), .call 17 [(.t 28), (.c (.d (.sc (.int .i64 5))))], none, 0, 0⟩,
       ⟨(some 27), .mov (.t 29), none, 0, 0⟩,
       ⟨(some 30), .extract (.t 27) 0, none, 0, 0⟩,
       ⟨(some 31), .extract (.t 27) 1, none, 0, 0⟩,
       ⟨(some 32), .extract (.t 27) 2, none, 0, 0⟩,
       ⟨(some 7), .mov (.t 30), none, 0, 0⟩,
       ⟨(some 8), .mov (.t 31), none, 0, 0⟩,
       ⟨(some 9), .mov (.t 32), none, 0, 0⟩] false)
     (.seq
      (.region [⟨(some 34), .call 32 [], none, 0, 0⟩,
        ⟨(some 35), .call 17 [(.t 34), (.c (.d (.sc (.int .i64 6))))], none, 0, 0⟩,
        ⟨(some 33), .mov (.t 35), none, 0, 0⟩,
        ⟨(some 36), .extract (.t 33) 0, none, 0, 0⟩,
        ⟨(some 37), .extract (.t 33) 1, none, 0, 0⟩,
        ⟨(some 38), .extract (.t 33) 2, none, 0, 0⟩,
        ⟨(some 10), .mov (.t 36), none, 0, 0⟩,
        ⟨(some 11), .mov (.t 37), none, 0, 0⟩,
        ⟨(some 12), .mov (.t 38), none, 0, 0⟩] false)
      (.seq
       (.region [⟨(some 40), .mov (.t 7), none, 0, 0⟩,
         ⟨(some 41), .call 11 [(.t 40)], none, 0, 0⟩,
         ⟨(some 39), .mov (.t 41), none, 0, 0⟩,
         ⟨(some 42), .extract (.t 39) 0, none, 0, 0⟩,
         ⟨(some 43), .extract (.t 39) 1, none, 0, 0⟩,
         ⟨(some 13), .mov (.t 42), none, 0, 0⟩,
         ⟨(some 14), .mov (.t 43), none, 0, 0⟩] false)
       (.seq
        (.region [⟨(some 44), .mov (.t 3), none, 0, 0⟩,
          ⟨(some 45), .bin .eql (.t 44) (.c (.d (.sc (.int .i64 0)))), none, 0, 0⟩,
          ⟨(some 46), .mov (.t 45), none, 0, 0⟩,
          ⟨(some 47), .mov (.t 6), (some (46, true)), 0, 0⟩,
          ⟨(some 48), .bin .eql (.t 47) (.c (.d (.sc (.int .i64 0)))), (some (46, true)), 0, 0⟩,
          ⟨(some 49), .pick (.t 46) (.t 48) (.c (.d (.sc (.bool false)))), none, 0, 0⟩,
          ⟨(some 50), .mov (.t 49), none, 0, 0⟩,
          ⟨(some 51), .mov (.t 9), (some (50, true)), 0, 0⟩,
          ⟨(some 52), .bin .eql (.t 51) (.c (.d (.sc (.int .i64 0)))), (some (50, true)), 0, 0⟩,
          ⟨(some 53), .pick (.t 50) (.t 52) (.c (.d (.sc (.bool false)))), none, 0, 0⟩,
          ⟨(some 54), .mov (.t 53), none, 0, 0⟩,
          ⟨(some 55), .mov (.t 12), (some (54, true)), 0, 0⟩,
          ⟨(some 56), .bin .eql (.t 55) (.c (.d (.sc (.int .i64 0)))), (some (54, true)), 0, 0⟩,
          ⟨(some 57), .pick (.t 54) (.t 56) (.c (.d (.sc (.bool false)))), none, 0, 0⟩,
          ⟨(some 58), .mov (.t 57), none, 0, 0⟩,
          ⟨(some 59), .mov (.t 14), (some (58, true)), 0, 0⟩,
          ⟨(some 60), .bin .eql (.t 59) (.c (.d (.sc (.int .i64 0)))), (some (58, true)), 0, 0⟩,
          ⟨(some 61), .pick (.t 58) (.t 60) (.c (.d (.sc (.bool false)))), none, 0, 0⟩,
          ⟨(some 62), .mov (.t 61), none, 0, 0⟩,
          ⟨(some 63), .mov (.t 2), (some (62, true)), 0, 0⟩,
          ⟨(some 64), .bin .eql (.t 63) (.c (.d (.sc (.int .i64 0)))), (some (62, true)), 0, 0⟩,
          ⟨(some 65), .pick (.t 62) (.t 64) (.c (.d (.sc (.bool false)))), none, 0, 0⟩,
          ⟨(some 66), .mov (.t 65), none, 0, 0⟩,
          ⟨(some 67), .mov (.t 5), (some (66, true)), 0, 0⟩,
          ⟨(some 68), .bin .eql (.t 67) (.c (.d (.sc (.int .i64 2)))), (some (66, true)), 0, 0⟩,
          ⟨(some 69), .pick (.t 66) (.t 68) (.c (.d (.sc (.bool false)))), none, 0, 0⟩,
          ⟨(some 70), .mov (.t 69), none, 0, 0⟩,
          ⟨(some 71), .mov (.t 8), (some (70, true)), 0, 0⟩,
          ⟨(some 72), .bin .eql (.t 71) (.c (.d (.sc (.int .i64 (-1))))), (some (70, true)), 0, 0⟩,
          ⟨(some 73), .pick (.t 70) (.t 72) (.c (.d (.sc (.bool false)))), none, 0, 0⟩,
          ⟨(some 74), .mov (.t 73), none, 0, 0⟩,
          ⟨(some 75), .mov (.t 11), (some (74, true)), 0, 0⟩,
          ⟨(some 76), .bin .eql (.t 75) (.c (.d (.sc (.int .i64 (-1))))), (some (74, true)), 0, 0⟩,
          ⟨(some 77), .pick (.t 74) (.t 76) (.c (.d (.sc (.bool false)))), none, 0, 0⟩,
          ⟨(some 78), .mov (.t 77), none, 0, 0⟩,
          ⟨(some 79), .mov (.t 13), (some (78, true)), 0, 0⟩,
          ⟨(some 80), .buildSlice 1 3 [(.sc (.int .i64 0))] [(0, (.c (.d (.sc (.int .i64 0))))), (1, (.c (.d (.sc (.int .i64 1))))), (2, (.c (.d (.sc (.int .i64 2)))))], (some (78, true)), 0, 0⟩,
          ⟨(some 81), .call 15 [(.t 79), (.t 80)], (some (78, true)), 0, 0⟩,
          ⟨(some 82), .pick (.t 78) (.t 81) (.c (.d (.sc (.bool false)))), none, 0, 0⟩,
          ⟨(some 0), .mov (.t 82), none, 0, 0⟩] false)
        .ret))))))), false⟩
/-- wreckage/routine.Wake -/
def t17 : AFn := ⟨2, 32, [.t 4, .t 5, .t 6],
 (.seq
  (.region [⟨(some 3), .box (.t 1), none, 0, 0⟩,
    ⟨(some 4), .mov (.c (.own [] .full)), none, 0, 0⟩,
    ⟨(some 5), .mov (.c (.d (.sc (.int .i64 0)))), none, 0, 0⟩,
    ⟨(some 6), .mov (.c (.d (.sc (.int .i64 0)))), none, 0, 0⟩] false)
  (.seq
   (.seq
    (.region [⟨(some 10), .mov (.t 0), none, 0, 0⟩,
      ⟨(some 11), .call 13 [(.t 10)], none, 0, 0⟩,
      ⟨(some 7), .mov (.t 11), none, 0, 0⟩] false)
    (.seq
     (.region [⟨(some 12), .mov (.t 7), none, 0, 0⟩,
       ⟨(some 13), .bin .neq (.t 12) (.c (.d (.sc (.int .i64 0)))), none, 0, 0⟩] false)
     (.cond (.t 13)
      (.seq
       (.region [⟨(some 14), .mov (.t 7), none, 0, 0⟩,
         ⟨(some 4), .mov (.c (.own [] .full)), none, 0, 0⟩,
         ⟨(some 5), .mov (.c (.d (.sc (.int .i64 0)))), none, 0, 0⟩,
         ⟨(some 6), .mov (.t 14), none, 0, 0⟩] false)
       .ret)
      .skip)))
   (.seq
    (.region [⟨(some 15), .mov (.t 0), none, 0, 0⟩,
      ⟨(some 16), .clone 6 48 (.t 15), none, 0, 1⟩,
      ⟨(some 8), .mov (.t 16), none, 0, 1⟩] false)
    (.seq
     (.region [⟨(some 17), .mov (.t 8), none, 0, 0⟩,
       ⟨(some 18), .makeFunc 35 [(.t 3)], none, 0, 0⟩,
       ⟨(some 19), .call 34 [(.t 17), (.t 18)], none, 0, 0⟩,
       ⟨(some 9), .mov (.t 19), none, 0, 0⟩] false)
     (.seq
      (.seq
       (.region [⟨(some 20), .mov (.t 9), none, 0, 0⟩,
         ⟨(some 21), .bin .geq (.t 20) (.c (.d (.sc (.int .i64 0)))), none, 0, 0⟩] false)
       (.cond (.t 21)
        (.region [⟨(some 22), .mov (.t 8), none, 0, 1⟩,
          ⟨(some 23), .mov (.t 9), none, 0, 0⟩,
          ⟨(some 24), .mov (.t 8), none, 0, 1⟩,
          ⟨(some 25), .mov (.t 9), none, 0, 0⟩,
          ⟨(some 26), .indexAddr 6 (.t 22) (.t 23), none, 0, 0⟩,
          ⟨(some 27), .fieldAddr 0 (.t 26), none, 0, 0⟩,
          ⟨none, .store 1 (.t 27) (.c (.d (.sc (.int .u8 1)))), none, 0, 0⟩,
          ⟨(some 28), .indexAddr 6 (.t 24) (.t 25), none, 0, 0⟩,
          ⟨(some 29), .fieldAddr 5 (.t 28), none, 0, 0⟩,
          ⟨none, .store 1 (.t 29) (.c (.d (.sc (.int .i64 0)))), none, 0, 0⟩] false)
        .skip))
      (.seq
       (.region [⟨(some 30), .mov (.t 8), none, 0, 0⟩,
         ⟨(some 31), .mov (.t 9), none, 0, 0⟩,
         ⟨(some 4), .mov (.t 30), none, 0, 0⟩,
         ⟨(some 5), .mov (.t 31), none, 0, 0⟩,
         ⟨(some 6), .mov (.c (.d (.sc (.int .i64 0)))), none, 0, 0⟩] false)
       .ret)))))), false⟩
/-- wreckage/routine.Block -/
def t19 : AFn := ⟨3, 34, [.t 6, .t 7],
 (.seq
  (.region [⟨(some 6), .mov (.c (.own [] .full)), none, 0, 0⟩,
    ⟨(some 7), .mov (.c (.d (.sc (.int .i64 0)))), none, 0, 0⟩] false)
  (.seq
   (.seq
    (.region [⟨(some 10), .mov (.t 0), none, 0, 0⟩,
      ⟨(some 11), .mov (.t 1), none, 0, 0⟩,
      ⟨(some 12), .call 36 [(.t 10), (.t 11)], none, 0, 0⟩,
      ⟨(some 8), .mov (.t 12), none, 0, 0⟩] false)
    (.seq
     (.region [⟨(some 13), .mov (.t 8), none, 0, 0⟩,
       ⟨(some 14), .bin .neq (.t 13) (.c (.d (.sc (.int .i64 0)))), none, 0, 0⟩] false)
     (.cond (.t 14)
      (.seq
       (.region [⟨(some 15), .mov (.t 8), none, 0, 0⟩,
         ⟨(some 6), .mov (.c (.own [] .full)), none, 0, 0⟩,
         ⟨(some 7), .mov (.t 15), none, 0, 0⟩] false)
       .ret)
      .skip)))
   (.seq
    (.seq
     (.region [⟨(some 16), .mov (.t 0), none, 0, 0⟩,
       ⟨(some 17), .mov (.t 1), none, 0, 0⟩,
       ⟨(some 18), .indexAddr 6 (.t 16) (.t 17), none, 0, 0⟩,
       ⟨(some 19), .fieldAddr 0 (.t 18), none, 0, 0⟩,
       ⟨(some 20), .load 1 false (.t 19), none, 0, 0⟩,
       ⟨(some 21), .bin .neq (.t 20) (.c (.d (.sc (.int .u8 1)))), none, 0, 0⟩] false)
     (.cond (.t 21)
      (.seq
       (.region [⟨(some 6), .mov (.c (.own [] .full)), none, 0, 0⟩,
         ⟨(some 7), .mov (.c (.d (.sc (.int .i64 36)))), none, 0, 0⟩] false)
       .ret)
      .skip))
    (.seq
     (.region [⟨(some 22), .mov (.t 0), none, 0, 0⟩,
       ⟨(some 23), .clone 6 48 (.t 22), none, 0, 1⟩,
       ⟨(some 9), .mov (.t 23), none, 0, 1⟩] false)
     (.seq
      (.region [⟨(some 24), .mov (.t 9), none, 0, 1⟩,
        ⟨(some 25), .mov (.t 1), none, 0, 0⟩,
        ⟨(some 26), .mov (.t 9), none, 0, 1⟩,
        ⟨(some 27), .mov (.t 1), none, 0, 0⟩,
        ⟨(some 28), .mov (.t 2), none, 0, 0⟩,
        ⟨(some 29), .indexAddr 6 (.t 24) (.t 25), none, 0, 0⟩,
        ⟨(some 30), .fieldAddr 0 (.t 29), none, 0, 0⟩,
        ⟨none, .store 1 (.t 30) (.c (.d (.sc (.int .u8 2)))), none, 0, 0⟩,
        ⟨(some 31), .indexAddr 6 (.t 26) (.t 27), none, 0, 0⟩,
        ⟨(some 32), .fieldAddr 5 (.t 31), none, 0, 0⟩,
        ⟨none, .store 1 (.t 32) (.t 28), none, 0, 0⟩] false)
      (.seq
       (.region [⟨(some 33), .mov (.t 9), none, 0, 0⟩,
         ⟨(some 6), .mov (.t 33), none, 0, 0⟩,
         ⟨(some 7), .mov (.c (.d (.sc (.int .i64 0)))), none, 0, 0⟩] false)
       .ret)))))), false⟩
/-- wreckage/routine.End -/
def t22 : AFn := ⟨2, 29, [.t 4, .t 5],
 (.seq
  (.region [⟨(some 4), .mov (.c (.own [] .full)), none, 0, 0⟩,
    ⟨(some 5), .mov (.c (.d (.sc (.int .i64 0)))), none, 0, 0⟩] false)
  (.seq
   (.seq
    (.region [⟨(some 8), .mov (.t 0), none, 0, 0⟩,
      ⟨(some 9), .mov (.t 1), none, 0, 0⟩,
      ⟨(some 10), .call 36 [(.t 8), (.t 9)], none, 0, 0⟩,
      ⟨(some 6), .mov (.t 10), none, 0, 0⟩] false)
    (.seq
     (.region [⟨(some 11), .mov (.t 6), none, 0, 0⟩,
       ⟨(some 12), .bin .neq (.t 11) (.c (.d (.sc (.int .i64 0)))), none, 0, 0⟩] false)
     (.cond (.t 12)
      (.seq
       (.region [⟨(some 13), .mov (.t 6), none, 0, 0⟩,
         ⟨(some 4), .mov (.c (.own [] .full)), none, 0, 0⟩,
         ⟨(some 5), .mov (.t 13), none, 0, 0⟩] false)
       .ret)
      .skip)))
   (.seq
    (.seq
     (.region [⟨(some 14), .mov (.t 0), none, 0, 0⟩,
       ⟨(some 15), .mov (.t 1), none, 0, 0⟩,
       ⟨(some 16), .indexAddr 6 (.t 14) (.t 15), none, 0, 0⟩,
       ⟨(some 17), .fieldAddr 0 (.t 16), none, 0, 0⟩,
       ⟨(some 18), .load 1 false (.t 17), none, 0, 0⟩,
       ⟨(some 19), .bin .eql (.t 18) (.c (.d (.sc (.int .u8 3)))), none, 0, 0⟩] false)
     (.cond (.t 19)
      (.seq
       (.region [⟨(some 4), .mov (.c (.own [] .full)), none, 0, 0⟩,
         ⟨(some 5), .mov (.c (.d (.sc (.int .i64 36)))), none, 0, 0⟩] false)
       .ret)
      .skip))
    (.seq
     (.region [⟨(some 20), .mov (.t 0), none, 0, 0⟩,
       ⟨(some 21), .clone 6 48 (.t 20), none, 0, 1⟩,
       ⟨(some 7), .mov (.t 21), none, 0, 1⟩] false)
     (.seq
      (.region [⟨(some 22), .mov (.t 7), none, 0, 1⟩,
        ⟨(some 23), .mov (.t 1), none, 0, 0⟩,
        ⟨(some 24), .mov (.t 1), none, 0, 0⟩,
        ⟨(some 25), .call 26 [(.t 24)], none, 0, 0⟩,
        ⟨(some 26), .build [(.d (.sc (.int .u8 0))), (.d (.sc (.int .u64 0))), (.d (.sc (.int .u64 0))), (.d (.sc (.int .u64 0))), (.d (.sc (.int .u64 0))), (.d (.sc (.int .i64 0)))] [(0, 1, (.c (.d (.sc (.int .u8 3))))), (2, 1, (.t 25))], none, 0, 0⟩,
        ⟨(some 27), .indexAddr 6 (.t 22) (.t 23), none, 0, 0⟩,
        ⟨none, .store 6 (.t 27) (.t 26), none, 0, 0⟩] false)
      (.seq
       (.region [⟨(some 28), .mov (.t 7), none, 0, 0⟩,
         ⟨(some 4), .mov (.t 28), none, 0, 0⟩,
         ⟨(some 5), .mov (.c (.d (.sc (.int .i64 0)))), none, 0, 0⟩] false)
       .ret)))))), false⟩
/-- wreckage/routine.coded -/
def t25 : AFn := ⟨1, 9, [.t 2],
 (.seq
  (.region [⟨(some 2), .mov (.c (.d (.sc (.bool false)))), none, 0, 0⟩] false)
  (.seq
   (.region [⟨(some 3), .mov (.t 0), none, 0, 0⟩,
     ⟨(some 4), .bin .geq (.t 3) (.c (.d (.sc (.int .u64 256)))), none, 0, 0⟩,
     ⟨(some 5), .mov (.t 4), none, 0, 0⟩,
     ⟨(some 6), .mov (.t 0), (some (5, true)), 0, 0⟩,
     ⟨(some 7), .bin .lss (.t 6) (.c (.d (.sc (.int .u64 8448)))), (some (5, true)), 0, 0⟩,
     ⟨(some 8), .pick (.t 5) (.t 7) (.c (.d (.sc (.bool false)))), none, 0, 0⟩,
     ⟨(some 2), .mov (.t 8), none, 0, 0⟩] false)
   .ret)), false⟩
/-- wreckage/routine.base -/
def t26 : AFn := ⟨1, 7, [.t 2],
 (.seq
  (.region [⟨(some 2), .mov (.c (.d (.sc (.int .u64 0)))), none, 0, 0⟩] false)
  (.seq
   (.region [⟨(some 3), .mov (.t 0), none, 0, 0⟩,
     ⟨(some 4), .bin .add (.t 3) (.c (.d (.sc (.int .i64 1)))), none, 0, 0⟩,
     ⟨(some 5), .conv .u64 (.t 4), none, 0, 0⟩,
     ⟨(some 6), .bin .mul (.c (.d (.sc (.int .u64 16777216)))) (.t 5), none, 0, 0⟩,
     ⟨(some 2), .mov (.t 6), none, 0, 0⟩] false)
   .ret)), false⟩
/-- wreckage/wreckageref19.Code -/
def t27 : AFn := ⟨1, 11, [.t 2],
 (.seq
  (.region [⟨(some 2), .mov (.c (.d (.sc (.bool false)))), none, 0, 0⟩] false)
  (.seq
   (.region [⟨(some 3), .mov (.t 0), none, 0, 0⟩,
     ⟨(some 4), .bin .quo (.t 3) (.c (.d (.sc (.int .u64 256)))), none, 0, 0⟩,
     ⟨(some 5), .bin .geq (.t 4) (.c (.d (.sc (.int .u64 1)))), none, 0, 0⟩,
     ⟨(some 6), .mov (.t 5), none, 0, 0⟩,
     ⟨(some 7), .mov (.t 0), (some (6, true)), 0, 0⟩,
     ⟨(some 8), .bin .quo (.t 7) (.c (.d (.sc (.int .u64 256)))), (some (6, true)), 0, 0⟩,
     ⟨(some 9), .bin .leq (.t 8) (.c (.d (.sc (.int .u64 32)))), (some (6, true)), 0, 0⟩,
     ⟨(some 10), .pick (.t 6) (.t 9) (.c (.d (.sc (.bool false)))), none, 0, 0⟩,
     ⟨(some 2), .mov (.t 10), none, 0, 0⟩] false)
   .ret)), false⟩
/-- wreckage/wreckageref19.Base -/
def t28 : AFn := ⟨1, 7, [.t 2],
 (.seq
  (.region [⟨(some 2), .mov (.c (.d (.sc (.int .u64 0)))), none, 0, 0⟩] false)
  (.seq
   (.region [⟨(some 3), .mov (.t 0), none, 0, 0⟩,
     ⟨(some 4), .bin .add (.t 3) (.c (.d (.sc (.int .i64 1)))), none, 0, 0⟩,
     ⟨(some 5), .bin .mul (.c (.d (.sc (.int .i64 16777216)))) (.t 4), none, 0, 0⟩,
     ⟨(some 6), .conv .u64 (.t 5), none, 0, 0⟩,
     ⟨(some 2), .mov (.t 6), none, 0, 0⟩] false)
   .ret)), false⟩
/-- wreckage/routine.valid -/
def t30 : AFn := ⟨2, 65, [.t 4],
 (.seq
  (.region [⟨(some 3), .box (.t 1), none, 0, 0⟩,
    ⟨(some 4), .mov (.c (.d (.sc (.bool false)))), none, 0, 0⟩] false)
  (.seq
   (.seq
    (.region [⟨(some 6), .fieldAddr 0 (.t 3), none, 0, 0⟩,
      ⟨(some 7), .load 1 false (.t 6), none, 0, 0⟩,
      ⟨(some 8), .bin .eql (.t 7) (.c (.d (.sc (.int .u8 3)))), none, 0, 0⟩] false)
    (.cond (.t 8)
     (.seq
      (.region [⟨(some 9), .load 6 true (.t 3), none, 0, 0⟩,
        ⟨(some 10), .mov (.t 0), none, 0, 0⟩,
        ⟨(some 11), .call 26 [(.t 10)], none, 2, 0⟩,
        ⟨(some 12), .build [(.d (.sc (.int .u8 0))), (.d (.sc (.int .u64 0))), (.d (.sc (.int .u64 0))), (.d (.sc (.int .u64 0))), (.d (.sc (.int .u64 0))), (.d (.sc (.int .i64 0)))] [(0, 1, (.c (.d (.sc (.int .u8 3))))), (2, 1, (.t 11))], none, 6, 0⟩,
        ⟨(some 13), .eqA false 6 [(0, 1), (1, 1), (2, 1), (3, 1), (4, 1), (5, 1)] (.t 9) (.t 12), none, 15, 0⟩,
        ⟨(some 4), .mov (.t 13), none, 31, 0⟩] true)
      .ret)
     .skip))
   (.seq
    (.region [⟨(some 14), .fieldAddr 2 (.t 3), none, 0, 0⟩,
      ⟨(some 15), .load 1 false (.t 14), none, 1, 0⟩,
      ⟨(some 16), .mov (.t 0), none, 0, 0⟩,
      ⟨(some 17), .call 26 [(.t 16)], none, 4, 0⟩,
      ⟨(some 18), .bin .sub (.t 15) (.t 17), none, 15, 0⟩,
      ⟨(some 5), .mov (.t 18), none, 31, 0⟩] true)
    (.seq
     (.seq
      (.region [⟨(some 19), .fieldAddr 2 (.t 3), none, 0, 0⟩,
        ⟨(some 20), .load 1 false (.t 19), none, 1, 0⟩,
        ⟨(some 21), .mov (.t 0), none, 0, 0⟩,
        ⟨(some 22), .call 26 [(.t 21)], none, 4, 0⟩,
        ⟨(some 23), .bin .lss (.t 20) (.t 22), none, 15, 0⟩,
        ⟨(some 24), .mov (.t 23), none, 31, 0⟩,
        ⟨(some 25), .mov (.t 5), (some (24, false)), 63, 0⟩,
        ⟨(some 26), .bin .lss (.t 25) (.c (.d (.sc (.int .u64 24)))), (some (24, false)), 127, 0⟩,
        ⟨(some 27), .pick (.t 24) (.c (.d (.sc (.bool true)))) (.t 26), none, 255, 0⟩,
        ⟨(some 28), .mov (.t 27), none, 511, 0⟩,
        ⟨(some 29), .mov (.t 5), (some (28, false)), 1023, 0⟩,
        ⟨(some 30), .bin .gtr (.t 29) (.c (.d (.sc (.int .u64 4096)))), (some (28, false)), 2047, 0⟩,
        ⟨(some 31), .pick (.t 28) (.c (.d (.sc (.bool true)))) (.t 30), none, 4095, 0⟩,
        ⟨(some 32), .mov (.t 31), none, 8191, 0⟩,
        ⟨(some 33), .mov (.t 5), (some (32, false)), 16383, 0⟩,
        ⟨(some 34), .bin .rem (.t 33) (.c (.d (.sc (.int .u64 8)))), (some (32, false)), 32767, 0⟩,
        ⟨(some 35), .bin .neq (.t 34) (.c (.d (.sc (.int .u64 0)))), (some (32, false)), 65535, 0⟩,
        ⟨(some 36), .pick (.t 32) (.c (.d (.sc (.bool true)))) (.t 35), none, 131071, 0⟩] true)
      (.cond (.t 36)
       (.seq
        (.region [⟨(some 4), .mov (.c (.d (.sc (.bool false)))), none, 0, 0⟩] false)
        .ret)
       .skip))
     (.seq
      (.region [⟨(some 37), .fieldAddr 0 (.t 3), none, 0, 0⟩,
        ⟨(some 38), .load 1 false (.t 37), none, 0, 0⟩,
        ⟨(some 39), .bin .eql (.t 38) (.c (.d (.sc (.int .u8 2)))), none, 0, 0⟩,
        ⟨(some 40), .mov (.t 39), none, 0, 0⟩,
        ⟨(some 41), .fieldAddr 0 (.t 3), (some (40, false)), 0, 0⟩,
        ⟨(some 42), .load 1 false (.t 41), (some (40, false)), 0, 0⟩,
        ⟨(some 43), .bin .eql (.t 42) (.c (.d (.sc (.int .u8 1)))), (some (40, false)), 0, 0⟩,
        ⟨(some 44), .mov (.t 43), (some (40, false)), 0, 0⟩,
        ⟨(some 45), .fieldAddr 5 (.t 3), (some (44, true)), 0, 0⟩,
        ⟨(some 46), .load 1 false (.t 45), (some (44, true)), 0, 0⟩,
        ⟨(some 47), .bin .eql (.t 46) (.c (.d (.sc (.int .i64 0)))), (some (44, true)), 0, 0⟩,
        ⟨(some 48), .pick (.t 44) (.t 47) (.c (.d (.sc (.bool false)))), (some (40, false)), 0, 0⟩,
        ⟨(some 49), .pick (.t 40) (.c (.d (.sc (.bool true)))) (.t 48), none, 0, 0⟩,
        ⟨(some 50), .mov (.t 49), none, 0, 0⟩,
        ⟨(some 51), .fieldAddr 1 (.t 3), (some (50, true)), 0, 0⟩,
        ⟨(some 52), .load 1 false (.t 51), (some (50, true)), 0, 0⟩,
        ⟨(some 53), .call 25 [(.t 52)], (some (50, true)), 0, 0⟩,
        ⟨(some 54), .pick (.t 50) (.t 53) (.c (.d (.sc (.bool false)))), none, 0, 0⟩,
        ⟨(some 55), .mov (.t 54), none, 0, 0⟩,
        ⟨(some 56), .fieldAddr 3 (.t 3), (some (55, true)), 0, 0⟩,
        ⟨(some 57), .load 1 false (.t 56), (some (55, true)), 0, 0⟩,
        ⟨(some 58), .call 39 [(.t 57)], (some (55, true)), 0, 0⟩,
        ⟨(some 59), .pick (.t 55) (.t 58) (.c (.d (.sc (.bool false)))), none, 0, 0⟩,
        ⟨(some 60), .mov (.t 59), none, 0, 0⟩,
        ⟨(some 61), .fieldAddr 4 (.t 3), (some (60, true)), 0, 0⟩,
        ⟨(some 62), .load 1 false (.t 61), (some (60, true)), 0, 0⟩,
        ⟨(some 63), .call 39 [(.t 62)], (some (60, true)), 0, 0⟩,
        ⟨(some 64), .pick (.t 60) (.t 63) (.c (.d (.sc (.bool false)))), none, 0, 0⟩,
        ⟨(some 4), .mov (.t 64), none, 0, 0⟩] false)
      .ret))))), false⟩
/-- wreckage/wreckagelaw19.three -/
def t32 : AFn := ⟨0, 23, [.t 0],
 (.seq
  (.region [⟨(some 0), .mov (.c (.own [] .full)), none, 0, 0⟩] false)
  (.seq
   (.region [⟨(some 1), .mov (.c (.own [] .full)), none, 0, 0⟩] false)
   (.seq
    (.seq
     (.region [⟨(some 2), .mov (.c (.d (.sc (.int .i64 0)))), none, 0, 0⟩] false)
     (.block 0
      (.loop
       (.seq
        (.seq
         (.region [⟨(some 5), .mov (.t 2), none, 0, 0⟩,
           ⟨(some 6), .bin .lss (.t 5) (.c (.d (.sc (.int .i64 3)))), none, 0, 0⟩] false)
         (.cond (.t 6)
          .skip
          (.exit 0)))
        (.seq
         (.block 1
          (.seq
           (.region [⟨(some 10), .mov (.t 2), none, 0, 0⟩,
             ⟨(some 11), .call 10 [(.t 10), (.c (.d (.sc (.int .u64 256)))), (.c (.d (.sc (.int .i64 24))))], none, 0, 0⟩,
             ⟨(some 9), .mov (.t 11), none, 0, 0⟩,
             ⟨(some 12), .extract (.t 9) 0, none, 0, 0⟩,
             ⟨(some 13), .extract (.t 9) 1, none, 0, 0⟩,
             ⟨(some 3), .alloc [(.d (.sc (.int .u8 0))), (.d (.sc (.int .u64 0))), (.d (.sc (.int .u64 0))), (.d (.sc (.int .u64 0))), (.d (.sc (.int .u64 0))), (.d (.sc (.int .i64 0)))], none, 0, 0⟩,
             ⟨none, .store 6 (.t 3) (.t 12), none, 0, 0⟩,
             ⟨(some 4), .mov (.t 13), none, 0, 0⟩] false)
           (.seq
            (.seq
             (.region [⟨(some 14), .mov (.t 2), none, 0, 0⟩,
               ⟨(some 15), .bin .neq (.t 14) (.c (.d (.sc (.int .i64 1)))), none, 0, 0⟩] false)
             (.cond (.t 15)
              (.region [⟨(some 16), .fieldAddr 0 (.t 3), none, 0, 0⟩,
                ⟨none, .store 1 (.t 16) (.c (.d (.sc (.int .u8 2)))), none, 0, 0⟩,
                ⟨(some 17), .fieldAddr 5 (.t 3), none, 0, 0⟩,
                ⟨none, .store 1 (.t 17) (.c (.d (.sc (.int .i64 5)))), none, 0, 0⟩] false)
              .skip))
            (.region [⟨(some 18), .mov (.t 1), none, 0, 0⟩,
              ⟨(some 19), .load 6 true (.t 3), none, 0, 0⟩,
              ⟨(some 20), .buildSlice 6 1 [(.sc (.int .u8 0)), (.sc (.int .u64 0)), (.sc (.int .u64 0)), (.sc (.int .u64 0)), (.sc (.int .u64 0)), (.sc (.int .i64 0))] [(0, (.t 19))], none, 0, 0⟩,
              ⟨(some 21), .append 6 48 (.t 18) (.t 20), none, 0, 0⟩,
              ⟨(some 1), .mov (.t 21), none, 0, 0⟩] false))))
         (.region [⟨(some 7), .mov (.t 2), none, 0, 0⟩,
           ⟨(some 8), .bin .add (.t 7) (.c (.d (.sc (.int .i64 1)))), none, 0, 0⟩,
           ⟨(some 2), .mov (.t 8), none, 0, 0⟩] false))))))
    (.seq
     (.region [⟨(some 22), .mov (.t 1), none, 0, 0⟩,
       ⟨(some 0), .mov (.t 22), none, 0, 0⟩] false)
     .ret)))), false⟩
/-- slices.IndexFunc[[]wreckage/api.Routine,wreckage/api.Routine] -/
def t34 : AFn := ⟨2, 19, [.t 4],
 (.seq
  (.region [⟨(some 4), .mov (.c (.d (.sc (.int .i64 0)))), none, 0, 0⟩] false)
  (.seq
   (.seq
    (.region [⟨(some 6), .mov (.t 0), none, 0, 0⟩,
      ⟨(some 7), .len (.t 6), none, 0, 0⟩,
      ⟨(some 8), .mov (.c (.d (.sc (.int .i64 0)))), none, 0, 0⟩] false)
    (.block 0
     (.loop
      (.seq
       (.region [⟨(some 9), .bin .lss (.t 8) (.t 7), none, 0, 0⟩] false)
       (.seq
        (.cond (.t 9)
         .skip
         (.exit 0))
        (.seq
         (.block 1
          (.seq
           (.region [⟨(some 10), .mov (.t 8), none, 0, 0⟩,
             ⟨(some 5), .mov (.t 10), none, 0, 0⟩] false)
           (.seq
            (.region [⟨(some 11), .mov (.t 1), none, 0, 0⟩,
              ⟨(some 12), .mov (.t 0), none, 0, 0⟩,
              ⟨(some 13), .mov (.t 5), none, 0, 0⟩,
              ⟨(some 14), .indexAddr 6 (.t 12) (.t 13), none, 0, 0⟩,
              ⟨(some 15), .load 6 true (.t 14), none, 0, 0⟩,
              ⟨(some 16), .callv (.t 11) [(.t 15)], none, 0, 0⟩] false)
            (.cond (.t 16)
             (.seq
              (.region [⟨(some 17), .mov (.t 5), none, 0, 0⟩,
                ⟨(some 4), .mov (.t 17), none, 0, 0⟩] false)
              .ret)
             .skip))))
         (.region [⟨(some 18), .bin .add (.t 8) (.c (.d (.sc (.int .i64 1)))), none, 0, 0⟩,
           ⟨(some 8), .mov (.t 18), none, 0, 0⟩] false)))))))
   (.seq
    (.region [⟨(some 4), .mov (.c (.d (.sc (.int .i64 (-1))))), none, 0, 0⟩] false)
    .ret))), true⟩
/-- wreckage/routine.Wake$1 -/
def t35 : AFn := ⟨2, 13, [.t 3],
 (.seq
  (.region [⟨(some 2), .box (.t 0), none, 0, 0⟩,
    ⟨(some 3), .mov (.c (.d (.sc (.bool false)))), none, 0, 0⟩] false)
  (.seq
   (.region [⟨(some 4), .fieldAddr 0 (.t 2), none, 0, 0⟩,
     ⟨(some 5), .load 1 false (.t 4), none, 0, 0⟩,
     ⟨(some 6), .bin .eql (.t 5) (.c (.d (.sc (.int .u8 2)))), none, 0, 0⟩,
     ⟨(some 7), .mov (.t 6), none, 0, 0⟩,
     ⟨(some 8), .fieldAddr 5 (.t 2), (some (7, true)), 0, 0⟩,
     ⟨(some 9), .load 1 false (.t 8), (some (7, true)), 0, 0⟩,
     ⟨(some 10), .load 1 false (.t 1), (some (7, true)), 0, 0⟩,
     ⟨(some 11), .bin .eql (.t 9) (.t 10), (some (7, true)), 0, 0⟩,
     ⟨(some 12), .pick (.t 7) (.t 11) (.c (.d (.sc (.bool false)))), none, 0, 0⟩,
     ⟨(some 3), .mov (.t 12), none, 0, 0⟩] false)
   .ret)), true⟩
/-- wreckage/routine.numbered -/
def t36 : AFn := ⟨2, 19, [.t 4],
 (.seq
  (.region [⟨(some 4), .mov (.c (.d (.sc (.int .i64 0)))), none, 0, 0⟩] false)
  (.seq
   (.seq
    (.region [⟨(some 6), .mov (.t 0), none, 0, 0⟩,
      ⟨(some 7), .call 13 [(.t 6)], none, 0, 0⟩,
      ⟨(some 5), .mov (.t 7), none, 0, 0⟩] false)
    (.seq
     (.region [⟨(some 8), .mov (.t 5), none, 0, 0⟩,
       ⟨(some 9), .bin .neq (.t 8) (.c (.d (.sc (.int .i64 0)))), none, 0, 0⟩] false)
     (.cond (.t 9)
      (.seq
       (.region [⟨(some 10), .mov (.t 5), none, 0, 0⟩,
         ⟨(some 4), .mov (.t 10), none, 0, 0⟩] false)
       .ret)
      .skip)))
   (.seq
    (.seq
     (.region [⟨(some 11), .mov (.t 1), none, 0, 0⟩,
       ⟨(some 12), .bin .lss (.t 11) (.c (.d (.sc (.int .i64 0)))), none, 0, 0⟩,
       ⟨(some 13), .mov (.t 12), none, 0, 0⟩,
       ⟨(some 14), .mov (.t 1), (some (13, false)), 0, 0⟩,
       ⟨(some 15), .mov (.t 0), (some (13, false)), 0, 0⟩,
       ⟨(some 16), .len (.t 15), (some (13, false)), 0, 0⟩,
       ⟨(some 17), .bin .geq (.t 14) (.t 16), (some (13, false)), 0, 0⟩,
       ⟨(some 18), .pick (.t 13) (.c (.d (.sc (.bool true)))) (.t 17), none, 0, 0⟩] false)
     (.cond (.t 18)
      (.seq
       (.region [⟨(some 4), .mov (.c (.d (.sc (.int .i64 2)))), none, 0, 0⟩] false)
       .ret)
      .skip))
    (.seq
     (.region [⟨(some 4), .mov (.c (.d (.sc (.int .i64 0)))), none, 0, 0⟩] false)
     .ret)))), false⟩
/-- wreckage/routine.high -/
def t39 : AFn := ⟨1, 14, [.t 2],
 (.seq
  (.region [⟨(some 2), .mov (.c (.d (.sc (.bool false)))), none, 0, 0⟩] false)
  (.seq
   (.region [⟨(some 3), .mov (.t 0), none, 0, 0⟩,
     ⟨(some 4), .bin .eql (.t 3) (.c (.d (.sc (.int .u64 0)))), none, 0, 0⟩,
     ⟨(some 5), .mov (.t 4), none, 0, 0⟩,
     ⟨(some 6), .mov (.t 0), (some (5, false)), 0, 0⟩,
     ⟨(some 7), .bin .rem (.t 6) (.c (.d (.sc (.int .u64 8)))), (some (5, false)), 0, 0⟩,
     ⟨(some 8), .bin .eql (.t 7) (.c (.d (.sc (.int .u64 0)))), (some (5, false)), 0, 0⟩,
     ⟨(some 9), .mov (.t 8), (some (5, false)), 0, 0⟩,
     ⟨(some 10), .mov (.t 0), (some (9, true)), 0, 0⟩,
     ⟨(some 11), .bin .geq (.t 10) (.c (.d (.sc (.int .u64 65536)))), (some (9, true)), 0, 0⟩,
     ⟨(some 12), .pick (.t 9) (.t 11) (.c (.d (.sc (.bool false)))), (some (5, false)), 0, 0⟩,
     ⟨(some 13), .pick (.t 5) (.c (.d (.sc (.bool true)))) (.t 12), none, 0, 0⟩,
     ⟨(some 2), .mov (.t 13), none, 0, 0⟩] false)
   .ret)), false⟩
def md : Nat → Eng.Mode := fun f => match f with
  | 8 => ⟨[], false⟩
  | 9 => ⟨[], false⟩
  | 10 => ⟨[], false⟩
  | 11 => ⟨[], false⟩
  | 13 => ⟨[], false⟩
  | 15 => ⟨[], false⟩
  | 16 => ⟨[], false⟩
  | 17 => ⟨[(24, 1), (22, 1), (8, 1), (16, 1)], false⟩
  | 19 => ⟨[(26, 1), (24, 1), (9, 1), (23, 1)], false⟩
  | 22 => ⟨[(22, 1), (7, 1), (21, 1)], false⟩
  | 25 => ⟨[], false⟩
  | 26 => ⟨[], false⟩
  | 27 => ⟨[], false⟩
  | 28 => ⟨[], false⟩
  | 30 => ⟨[], false⟩
  | 32 => ⟨[], false⟩
  | 34 => ⟨[], true⟩
  | 35 => ⟨[], true⟩
  | 36 => ⟨[], false⟩
  | 39 => ⟨[], false⟩
  | _ => ⟨[], false⟩
def lib : Nat → Option TypeId := fun f => match f with
  | 33 => some 23
  | _ => none
def tab : Nat → Option AFn := fun f => match f with
  | 8 => some t8
  | 9 => some t9
  | 10 => some t10
  | 11 => some t11
  | 13 => some t13
  | 15 => some t15
  | 16 => some t16
  | 17 => some t17
  | 19 => some t19
  | 22 => some t22
  | 25 => some t25
  | 26 => some t26
  | 27 => some t27
  | 28 => some t28
  | 30 => some t30
  | 32 => some t32
  | 34 => some t34
  | 35 => some t35
  | 36 => some t36
  | 39 => some t39
  | _ => none
theorem ok8 : fnP Try.prog lib md 8 = some t8 := by kernel_rfl
theorem ok9 : fnP Try.prog lib md 9 = some t9 := by kernel_rfl
theorem ok10 : fnP Try.prog lib md 10 = some t10 := by kernel_rfl
theorem ok11 : fnP Try.prog lib md 11 = some t11 := by kernel_rfl
theorem ok13 : fnP Try.prog lib md 13 = some t13 := by kernel_rfl
theorem ok15 : fnP Try.prog lib md 15 = some t15 := by kernel_rfl
theorem ok16 : fnP Try.prog lib md 16 = some t16 := by kernel_rfl
theorem ok17 : fnP Try.prog lib md 17 = some t17 := by kernel_rfl
theorem ok19 : fnP Try.prog lib md 19 = some t19 := by kernel_rfl
theorem ok22 : fnP Try.prog lib md 22 = some t22 := by kernel_rfl
theorem ok25 : fnP Try.prog lib md 25 = some t25 := by kernel_rfl
theorem ok26 : fnP Try.prog lib md 26 = some t26 := by kernel_rfl
theorem ok27 : fnP Try.prog lib md 27 = some t27 := by kernel_rfl
theorem ok28 : fnP Try.prog lib md 28 = some t28 := by kernel_rfl
theorem ok30 : fnP Try.prog lib md 30 = some t30 := by kernel_rfl
theorem ok32 : fnP Try.prog lib md 32 = some t32 := by kernel_rfl
theorem ok34 : fnP Try.prog lib md 34 = some t34 := by kernel_rfl
theorem ok35 : fnP Try.prog lib md 35 = some t35 := by kernel_rfl
theorem ok36 : fnP Try.prog lib md 36 = some t36 := by kernel_rfl
theorem ok39 : fnP Try.prog lib md 39 = some t39 := by kernel_rfl
theorem run : (runF tab 4000 8 [] [.lf] .lf 0).map (·.1) = some (.d (.sc (.bool true))) := by kernel_rfl
end Go.Proofs.Ytkdjilgpknecfaa
