/- The tables of DifferNames, and its run. -/
import Derived.Test.YtdefleeofgekkaaEngTop
import Derived.Test.YtdefleeofgekkaaRows
import Derived.ProofKit
namespace Go.Proofs.Ytdefleeofgekkaa
open Go Go.Eng
/-- wreckage/wreckagelaw43.DifferNames -/
def t8 : AFn := ⟨0, 374, [.t 0],
 (.seq
 (.region [⟨(some 0), .mov (.c (.d (.sc (.bool false)))), none, 0, 0⟩] false)
 (.seq
 (.region [⟨(some 34), .build [(.d (.sc (.int .u8 0))), (.d (.sc (.int .i64 0))), (.own [] .full), (.own [] .full), (.own [] .full)] [(0, 1, (.c (.d (.sc (.int .u8 1)))))], none, 0, 0⟩,
 ⟨(some 1), .alloc [(.d (.sc (.int .u8 0))), (.d (.sc (.int .i64 0))), (.own [] .full), (.own [] .full), (.own [] .full)], none, 0, 0⟩,
 ⟨none, .store 5 (.t 1) (.t 34), none, 0, 0⟩] false)
 (.seq
 (.region [⟨(some 35), .makeSlice 5 88 [(.sc (.int .u8 0)), (.sc (.int .i64 0)), (.sl []), (.sl []), (.sl [])] (.c (.d (.sc (.int .i64 16)))) (.c (.d (.sc (.int .i64 16)))), none, 0, 0⟩,
 ⟨(some 36), .build [(.d (.sc (.int .u8 0))), (.d (.sc (.int .i64 0))), (.d (.sc (.int .i64 0))), (.own [] .full)] [(3, 1, (.t 35))], none, 0, 0⟩,
 ⟨(some 2), .alloc [(.d (.sc (.int .u8 0))), (.d (.sc (.int .i64 0))), (.d (.sc (.int .i64 0))), (.own [] .full)], none, 0, 0⟩,
 ⟨none, .store 4 (.t 2) (.t 36), none, 0, 0⟩] false)
 (.seq
 (.region [⟨(some 37), .makeSlice 5 88 [(.sc (.int .u8 0)), (.sc (.int .i64 0)), (.sl []), (.sl []), (.sl [])] (.c (.d (.sc (.int .i64 17)))) (.c (.d (.sc (.int .i64 17)))), none, 0, 0⟩,
 ⟨(some 38), .build [(.d (.sc (.int .u8 0))), (.d (.sc (.int .i64 0))), (.d (.sc (.int .i64 0))), (.own [] .full)] [(3, 1, (.t 37))], none, 0, 0⟩,
 ⟨(some 3), .alloc [(.d (.sc (.int .u8 0))), (.d (.sc (.int .i64 0))), (.d (.sc (.int .i64 0))), (.own [] .full)], none, 0, 0⟩,
 ⟨none, .store 4 (.t 3) (.t 38), none, 0, 0⟩] false)
 (.seq
 (.region [⟨(some 39), .makeSlice 4 48 [(.sc (.int .i64 0)), (.sc (.int .i64 0)), (.sc (.int .u64 0)), (.sl [])] (.c (.d (.sc (.int .i64 171)))) (.c (.d (.sc (.int .i64 171)))), none, 0, 0⟩,
 ⟨(some 40), .build [(.d (.sc (.int .u8 0))), (.d (.sc (.int .i64 0))), (.own [] .full), (.own [] .full), (.own [] .full)] [(2, 1, (.t 39))], none, 0, 0⟩,
 ⟨(some 41), .buildSlice 5 1 [(.sc (.int .u8 0)), (.sc (.int .i64 0)), (.sl []), (.sl []), (.sl [])] [(0, (.t 40))], none, 0, 0⟩,
 ⟨(some 42), .call 28 [(.t 41)], none, 0, 0⟩,
 ⟨(some 4), .alloc [(.d (.sc (.int .u8 0))), (.d (.sc (.int .i64 0))), (.d (.sc (.int .i64 0))), (.own [] .full)], none, 0, 0⟩,
 ⟨none, .store 4 (.t 4) (.t 42), none, 0, 0⟩] false)
 (.seq
 (.region [⟨(some 43), .makeSlice 4 48 [(.sc (.int .i64 0)), (.sc (.int .i64 0)), (.sc (.int .u64 0)), (.sl [])] (.c (.d (.sc (.int .i64 170)))) (.c (.d (.sc (.int .i64 170)))), none, 0, 0⟩,
 ⟨(some 44), .build [(.d (.sc (.int .u8 0))), (.d (.sc (.int .i64 0))), (.own [] .full), (.own [] .full), (.own [] .full)] [(2, 1, (.t 43))], none, 0, 0⟩,
 ⟨(some 45), .buildSlice 5 1 [(.sc (.int .u8 0)), (.sc (.int .i64 0)), (.sl []), (.sl []), (.sl [])] [(0, (.t 44))], none, 0, 0⟩,
 ⟨(some 46), .call 28 [(.t 45)], none, 0, 0⟩,
 ⟨(some 5), .alloc [(.d (.sc (.int .u8 0))), (.d (.sc (.int .i64 0))), (.d (.sc (.int .i64 0))), (.own [] .full)], none, 0, 0⟩,
 ⟨none, .store 4 (.t 5) (.t 46), none, 0, 0⟩] false)
 (.seq
 (.region [⟨(some 47), .build [(.d (.sc (.int .u8 0))), (.d (.sc (.int .i64 0))), (.d (.sc (.int .i64 0))), (.d (.sc (.int .u8 0))), (.d (.sc (.int .i64 0))), (.d (.sc (.int .i64 0))), (.d (.sc (.int .u8 0))), (.d (.sc (.int .i64 0))), (.own [] .full), (.own [] .full), (.own [] .full)] [], none, 0, 0⟩,
 ⟨(some 48), .callF 29 [(.t 47)], none, 0, 0⟩,
 ⟨(some 49), .mov (.t 48), none, 0, 0⟩,
 ⟨(some 50), .build [(.d (.sc (.int .u8 0))), (.d (.sc (.int .i64 0))), (.d (.sc (.int .i64 0))), (.d (.sc (.int .u8 0))), (.d (.sc (.int .i64 0))), (.d (.sc (.int .i64 0))), (.d (.sc (.int .u8 0))), (.d (.sc (.int .i64 0))), (.own [] .full), (.own [] .full), (.own [] .full)] [(0, 1, (.c (.d (.sc (.int .u8 8)))))], (some (49, true)), 0, 0⟩,
 ⟨(some 51), .callF 29 [(.t 50)], (some (49, true)), 0, 0⟩,
 ⟨(some 52), .pick (.t 49) (.t 51) (.c (.d (.sc (.bool false)))), none, 0, 0⟩,
 ⟨(some 53), .mov (.t 52), none, 0, 0⟩,
 ⟨(some 54), .build [(.d (.sc (.int .u8 0))), (.d (.sc (.int .i64 0))), (.d (.sc (.int .i64 0))), (.d (.sc (.int .u8 0))), (.d (.sc (.int .i64 0))), (.d (.sc (.int .i64 0))), (.d (.sc (.int .u8 0))), (.d (.sc (.int .i64 0))), (.own [] .full), (.own [] .full), (.own [] .full)] [(0, 1, (.c (.d (.sc (.int .u8 1))))), (1, 1, (.c (.d (.sc (.int .i64 1)))))], (some (53, true)), 0, 0⟩,
 ⟨(some 55), .callF 29 [(.t 54)], (some (53, true)), 0, 0⟩,
 ⟨(some 56), .pick (.t 53) (.t 55) (.c (.d (.sc (.bool false)))), none, 0, 0⟩,
 ⟨(some 57), .mov (.t 56), none, 0, 0⟩,
 ⟨(some 58), .load 5 true (.t 1), (some (57, true)), 0, 0⟩,
 ⟨(some 59), .build [(.d (.sc (.int .u8 0))), (.d (.sc (.int .i64 0))), (.d (.sc (.int .i64 0))), (.d (.sc (.int .u8 0))), (.d (.sc (.int .i64 0))), (.d (.sc (.int .i64 0))), (.d (.sc (.int .u8 0))), (.d (.sc (.int .i64 0))), (.own [] .full), (.own [] .full), (.own [] .full)] [(0, 1, (.c (.d (.sc (.int .u8 1))))), (6, 5, (.t 58))], (some (57, true)), 0, 0⟩,
 ⟨(some 60), .callF 29 [(.t 59)], (some (57, true)), 0, 0⟩,
 ⟨(some 61), .pick (.t 57) (.t 60) (.c (.d (.sc (.bool false)))), none, 0, 0⟩,
 ⟨(some 62), .mov (.t 61), none, 0, 0⟩,
 ⟨(some 63), .build [(.d (.sc (.int .u8 0))), (.d (.sc (.int .i64 0))), (.d (.sc (.int .i64 0))), (.d (.sc (.int .u8 0))), (.d (.sc (.int .i64 0))), (.d (.sc (.int .i64 0))), (.d (.sc (.int .u8 0))), (.d (.sc (.int .i64 0))), (.own [] .full), (.own [] .full), (.own [] .full)] [(0, 1, (.c (.d (.sc (.int .u8 2))))), (2, 1, (.c (.d (.sc (.int .i64 1)))))], (some (62, true)), 0, 0⟩,
 ⟨(some 64), .callF 29 [(.t 63)], (some (62, true)), 0, 0⟩,
 ⟨(some 65), .pick (.t 62) (.t 64) (.c (.d (.sc (.bool false)))), none, 0, 0⟩,
 ⟨(some 66), .mov (.t 65), none, 0, 0⟩,
 ⟨(some 67), .build [(.d (.sc (.int .u8 0))), (.d (.sc (.int .i64 0))), (.d (.sc (.int .i64 0))), (.d (.sc (.int .u8 0))), (.d (.sc (.int .i64 0))), (.d (.sc (.int .i64 0))), (.d (.sc (.int .u8 0))), (.d (.sc (.int .i64 0))), (.own [] .full), (.own [] .full), (.own [] .full)] [(0, 1, (.c (.d (.sc (.int .u8 2))))), (1, 1, (.c (.d (.sc (.int .i64 16)))))], (some (66, true)), 0, 0⟩,
 ⟨(some 68), .callF 29 [(.t 67)], (some (66, true)), 0, 0⟩,
 ⟨(some 69), .pick (.t 66) (.t 68) (.c (.d (.sc (.bool false)))), none, 0, 0⟩,
 ⟨(some 70), .mov (.t 69), none, 0, 0⟩,
 ⟨(some 71), .build [(.d (.sc (.int .u8 0))), (.d (.sc (.int .i64 0))), (.d (.sc (.int .i64 0))), (.d (.sc (.int .u8 0))), (.d (.sc (.int .i64 0))), (.d (.sc (.int .i64 0))), (.d (.sc (.int .u8 0))), (.d (.sc (.int .i64 0))), (.own [] .full), (.own [] .full), (.own [] .full)] [(0, 1, (.c (.d (.sc (.int .u8 2))))), (1, 1, (.c (.d (.sc (.int .i64 (-1))))))], (some (70, true)), 0, 0⟩,
 ⟨(some 72), .callF 29 [(.t 71)], (some (70, true)), 0, 0⟩,
 ⟨(some 73), .pick (.t 70) (.t 72) (.c (.d (.sc (.bool false)))), none, 0, 0⟩,
 ⟨(some 74), .mov (.t 73), none, 0, 0⟩,
 ⟨(some 75), .makeSlice 4 48 [(.sc (.int .i64 0)), (.sc (.int .i64 0)), (.sc (.int .u64 0)), (.sl [])] (.c (.d (.sc (.int .i64 1)))) (.c (.d (.sc (.int .i64 1)))), (some (74, true)), 0, 0⟩,
 ⟨(some 76), .build [(.d (.sc (.int .u8 0))), (.d (.sc (.int .i64 0))), (.own [] .full), (.own [] .full), (.own [] .full)] [(2, 1, (.t 75))], (some (74, true)), 0, 0⟩,
 ⟨(some 77), .build [(.d (.sc (.int .u8 0))), (.d (.sc (.int .i64 0))), (.d (.sc (.int .i64 0))), (.d (.sc (.int .u8 0))), (.d (.sc (.int .i64 0))), (.d (.sc (.int .i64 0))), (.d (.sc (.int .u8 0))), (.d (.sc (.int .i64 0))), (.own [] .full), (.own [] .full), (.own [] .full)] [(0, 1, (.c (.d (.sc (.int .u8 2))))), (6, 5, (.t 76))], (some (74, true)), 0, 0⟩,
 ⟨(some 78), .callF 29 [(.t 77)], (some (74, true)), 0, 0⟩,
 ⟨(some 79), .pick (.t 74) (.t 78) (.c (.d (.sc (.bool false)))), none, 0, 0⟩,
 ⟨(some 80), .mov (.t 79), none, 0, 0⟩,
 ⟨(some 81), .load 5 true (.t 1), (some (80, true)), 0, 0⟩,
 ⟨(some 82), .build [(.d (.sc (.int .u8 0))), (.d (.sc (.int .i64 0))), (.d (.sc (.int .i64 0))), (.d (.sc (.int .u8 0))), (.d (.sc (.int .i64 0))), (.d (.sc (.int .i64 0))), (.d (.sc (.int .u8 0))), (.d (.sc (.int .i64 0))), (.own [] .full), (.own [] .full), (.own [] .full)] [(0, 1, (.c (.d (.sc (.int .u8 3))))), (6, 5, (.t 81))], (some (80, true)), 0, 0⟩,
 ⟨(some 83), .callF 29 [(.t 82)], (some (80, true)), 0, 0⟩,
 ⟨(some 84), .pick (.t 80) (.t 83) (.c (.d (.sc (.bool false)))), none, 0, 0⟩,
 ⟨(some 85), .mov (.t 84), none, 0, 0⟩,
 ⟨(some 86), .build [(.d (.sc (.int .u8 0))), (.d (.sc (.int .i64 0))), (.d (.sc (.int .i64 0))), (.d (.sc (.int .u8 0))), (.d (.sc (.int .i64 0))), (.d (.sc (.int .i64 0))), (.d (.sc (.int .u8 0))), (.d (.sc (.int .i64 0))), (.own [] .full), (.own [] .full), (.own [] .full)] [(0, 1, (.c (.d (.sc (.int .u8 3))))), (2, 1, (.c (.d (.sc (.int .i64 171)))))], (some (85, true)), 0, 0⟩,
 ⟨(some 87), .callF 29 [(.t 86)], (some (85, true)), 0, 0⟩,
 ⟨(some 88), .pick (.t 85) (.t 87) (.c (.d (.sc (.bool false)))), none, 0, 0⟩,
 ⟨(some 89), .mov (.t 88), none, 0, 0⟩,
 ⟨(some 90), .build [(.d (.sc (.int .u8 0))), (.d (.sc (.int .i64 0))), (.d (.sc (.int .i64 0))), (.d (.sc (.int .u8 0))), (.d (.sc (.int .i64 0))), (.d (.sc (.int .i64 0))), (.d (.sc (.int .u8 0))), (.d (.sc (.int .i64 0))), (.own [] .full), (.own [] .full), (.own [] .full)] [(0, 1, (.c (.d (.sc (.int .u8 3))))), (2, 1, (.c (.d (.sc (.int .i64 (-1))))))], (some (89, true)), 0, 0⟩,
 ⟨(some 91), .callF 29 [(.t 90)], (some (89, true)), 0, 0⟩,
 ⟨(some 92), .pick (.t 89) (.t 91) (.c (.d (.sc (.bool false)))), none, 0, 0⟩,
 ⟨(some 93), .mov (.t 92), none, 0, 0⟩,
 ⟨(some 94), .makeSlice 4 48 [(.sc (.int .i64 0)), (.sc (.int .i64 0)), (.sc (.int .u64 0)), (.sl [])] (.c (.d (.sc (.int .i64 171)))) (.c (.d (.sc (.int .i64 171)))), (some (93, true)), 0, 0⟩,
 ⟨(some 95), .build [(.d (.sc (.int .u8 0))), (.d (.sc (.int .i64 0))), (.own [] .full), (.own [] .full), (.own [] .full)] [(2, 1, (.t 94))], (some (93, true)), 0, 0⟩,
 ⟨(some 96), .build [(.d (.sc (.int .u8 0))), (.d (.sc (.int .i64 0))), (.d (.sc (.int .i64 0))), (.d (.sc (.int .u8 0))), (.d (.sc (.int .i64 0))), (.d (.sc (.int .i64 0))), (.d (.sc (.int .u8 0))), (.d (.sc (.int .i64 0))), (.own [] .full), (.own [] .full), (.own [] .full)] [(0, 1, (.c (.d (.sc (.int .u8 3))))), (6, 5, (.t 95))], (some (93, true)), 0, 0⟩,
 ⟨(some 97), .callF 29 [(.t 96)], (some (93, true)), 0, 0⟩,
 ⟨(some 98), .pick (.t 93) (.t 97) (.c (.d (.sc (.bool false)))), none, 0, 0⟩,
 ⟨(some 99), .mov (.t 98), none, 0, 0⟩,
 ⟨(some 100), .makeSlice 7 80 [(.sc (.int .u64 0)), (.sc (.int .u8 0)), (.sc (.int .i64 0)), (.sc (.string ⟨#[]⟩)), (.sl []), (.sc (.bool false)), (.sc (.int .u64 0))] (.c (.d (.sc (.int .i64 1)))) (.c (.d (.sc (.int .i64 1)))), (some (99, true)), 0, 0⟩,
 ⟨(some 101), .build [(.d (.sc (.int .u8 0))), (.d (.sc (.int .i64 0))), (.own [] .full), (.own [] .full), (.own [] .full)] [(4, 1, (.t 100))], (some (99, true)), 0, 0⟩,
 ⟨(some 102), .build [(.d (.sc (.int .u8 0))), (.d (.sc (.int .i64 0))), (.d (.sc (.int .i64 0))), (.d (.sc (.int .u8 0))), (.d (.sc (.int .i64 0))), (.d (.sc (.int .i64 0))), (.d (.sc (.int .u8 0))), (.d (.sc (.int .i64 0))), (.own [] .full), (.own [] .full), (.own [] .full)] [(0, 1, (.c (.d (.sc (.int .u8 4))))), (6, 5, (.t 101))], (some (99, true)), 0, 0⟩,
 ⟨(some 103), .callF 29 [(.t 102)], (some (99, true)), 0, 0⟩,
 ⟨(some 104), .pick (.t 99) (.t 103) (.c (.d (.sc (.bool false)))), none, 0, 0⟩,
 ⟨(some 105), .mov (.t 104), none, 0, 0⟩,
 ⟨(some 106), .makeSlice 8 88 [(.sc (.int .i64 0)), (.sc (.int .i64 0)), (.sc (.bool false)), (.sc (.int .u8 0)), (.sc (.int .i64 0)), (.sc (.string ⟨#[]⟩)), (.sl []), (.sc (.bool false))] (.c (.d (.sc (.int .i64 411)))) (.c (.d (.sc (.int .i64 411)))), (some (105, true)), 0, 0⟩,
 ⟨(some 107), .build [(.d (.sc (.int .u8 0))), (.d (.sc (.int .i64 0))), (.own [] .full), (.own [] .full), (.own [] .full)] [(3, 1, (.t 106))], (some (105, true)), 0, 0⟩,
 ⟨(some 108), .build [(.d (.sc (.int .u8 0))), (.d (.sc (.int .i64 0))), (.d (.sc (.int .i64 0))), (.d (.sc (.int .u8 0))), (.d (.sc (.int .i64 0))), (.d (.sc (.int .i64 0))), (.d (.sc (.int .u8 0))), (.d (.sc (.int .i64 0))), (.own [] .full), (.own [] .full), (.own [] .full)] [(0, 1, (.c (.d (.sc (.int .u8 4))))), (6, 5, (.t 107))], (some (105, true)), 0, 0⟩,
 ⟨(some 109), .callF 29 [(.t 108)], (some (105, true)), 0, 0⟩,
 ⟨(some 110), .pick (.t 105) (.t 109) (.c (.d (.sc (.bool false)))), none, 0, 0⟩,
 ⟨(some 111), .mov (.t 110), none, 0, 0⟩,
 ⟨(some 112), .makeSlice 8 88 [(.sc (.int .i64 0)), (.sc (.int .i64 0)), (.sc (.bool false)), (.sc (.int .u8 0)), (.sc (.int .i64 0)), (.sc (.string ⟨#[]⟩)), (.sl []), (.sc (.bool false))] (.c (.d (.sc (.int .i64 1)))) (.c (.d (.sc (.int .i64 1)))), (some (111, true)), 0, 0⟩,
 ⟨(some 113), .build [(.d (.sc (.int .u8 0))), (.d (.sc (.int .i64 0))), (.own [] .full), (.own [] .full), (.own [] .full)] [(3, 1, (.t 112))], (some (111, true)), 0, 0⟩,
 ⟨(some 114), .build [(.d (.sc (.int .u8 0))), (.d (.sc (.int .i64 0))), (.d (.sc (.int .i64 0))), (.d (.sc (.int .u8 0))), (.d (.sc (.int .i64 0))), (.d (.sc (.int .i64 0))), (.d (.sc (.int .u8 0))), (.d (.sc (.int .i64 0))), (.own [] .full), (.own [] .full), (.own [] .full)] [(0, 1, (.c (.d (.sc (.int .u8 5))))), (6, 5, (.t 113))], (some (111, true)), 0, 0⟩,
 ⟨(some 115), .callF 29 [(.t 114)], (some (111, true)), 0, 0⟩,
 ⟨(some 116), .pick (.t 111) (.t 115) (.c (.d (.sc (.bool false)))), none, 0, 0⟩,
 ⟨(some 117), .mov (.t 116), none, 0, 0⟩,
 ⟨(some 118), .load 5 true (.t 1), (some (117, true)), 0, 0⟩,
 ⟨(some 119), .build [(.d (.sc (.int .u8 0))), (.d (.sc (.int .i64 0))), (.d (.sc (.int .i64 0))), (.d (.sc (.int .u8 0))), (.d (.sc (.int .i64 0))), (.d (.sc (.int .i64 0))), (.d (.sc (.int .u8 0))), (.d (.sc (.int .i64 0))), (.own [] .full), (.own [] .full), (.own [] .full)] [(0, 1, (.c (.d (.sc (.int .u8 6))))), (6, 5, (.t 118))], (some (117, true)), 0, 0⟩,
 ⟨(some 120), .callF 29 [(.t 119)], (some (117, true)), 0, 0⟩,
 ⟨(some 121), .pick (.t 117) (.t 120) (.c (.d (.sc (.bool false)))), none, 0, 0⟩,
 ⟨(some 122), .mov (.t 121), none, 0, 0⟩,
 ⟨(some 123), .build [(.d (.sc (.int .u8 0))), (.d (.sc (.int .i64 0))), (.d (.sc (.int .i64 0))), (.d (.sc (.int .u8 0))), (.d (.sc (.int .i64 0))), (.d (.sc (.int .i64 0))), (.d (.sc (.int .u8 0))), (.d (.sc (.int .i64 0))), (.own [] .full), (.own [] .full), (.own [] .full)] [(0, 1, (.c (.d (.sc (.int .u8 6))))), (1, 1, (.c (.d (.sc (.int .i64 16)))))], (some (122, true)), 0, 0⟩,
 ⟨(some 124), .callF 29 [(.t 123)], (some (122, true)), 0, 0⟩,
 ⟨(some 125), .pick (.t 122) (.t 124) (.c (.d (.sc (.bool false)))), none, 0, 0⟩,
 ⟨(some 126), .mov (.t 125), none, 0, 0⟩,
 ⟨(some 127), .build [(.d (.sc (.int .u8 0))), (.d (.sc (.int .i64 0))), (.d (.sc (.int .i64 0))), (.d (.sc (.int .u8 0))), (.d (.sc (.int .i64 0))), (.d (.sc (.int .i64 0))), (.d (.sc (.int .u8 0))), (.d (.sc (.int .i64 0))), (.own [] .full), (.own [] .full), (.own [] .full)] [(0, 1, (.c (.d (.sc (.int .u8 7))))), (1, 1, (.c (.d (.sc (.int .i64 1)))))], (some (126, true)), 0, 0⟩,
 ⟨(some 128), .callF 29 [(.t 127)], (some (126, true)), 0, 0⟩,
 ⟨(some 129), .pick (.t 126) (.t 128) (.c (.d (.sc (.bool false)))), none, 0, 0⟩,
 ⟨(some 130), .mov (.t 129), none, 0, 0⟩,
 ⟨(some 131), .build [(.d (.sc (.int .u8 0))), (.d (.sc (.int .i64 0))), (.d (.sc (.int .i64 0))), (.d (.sc (.int .u8 0))), (.d (.sc (.int .i64 0))), (.d (.sc (.int .i64 0))), (.d (.sc (.int .u8 0))), (.d (.sc (.int .i64 0))), (.own [] .full), (.own [] .full), (.own [] .full)] [(0, 1, (.c (.d (.sc (.int .u8 7))))), (5, 1, (.c (.d (.sc (.int .i64 1)))))], (some (130, true)), 0, 0⟩,
 ⟨(some 132), .callF 29 [(.t 131)], (some (130, true)), 0, 0⟩,
 ⟨(some 133), .pick (.t 130) (.t 132) (.c (.d (.sc (.bool false)))), none, 0, 0⟩,
 ⟨(some 134), .mov (.t 133), none, 0, 0⟩,
 ⟨(some 135), .makeSlice 7 80 [(.sc (.int .u64 0)), (.sc (.int .u8 0)), (.sc (.int .i64 0)), (.sc (.string ⟨#[]⟩)), (.sl []), (.sc (.bool false)), (.sc (.int .u64 0))] (.c (.d (.sc (.int .i64 411)))) (.c (.d (.sc (.int .i64 411)))), (some (134, true)), 0, 0⟩,
 ⟨(some 136), .build [(.d (.sc (.int .u8 0))), (.d (.sc (.int .i64 0))), (.own [] .full), (.own [] .full), (.own [] .full)] [(4, 1, (.t 135))], (some (134, true)), 0, 0⟩,
 ⟨(some 137), .build [(.d (.sc (.int .u8 0))), (.d (.sc (.int .i64 0))), (.d (.sc (.int .i64 0))), (.d (.sc (.int .u8 0))), (.d (.sc (.int .i64 0))), (.d (.sc (.int .i64 0))), (.d (.sc (.int .u8 0))), (.d (.sc (.int .i64 0))), (.own [] .full), (.own [] .full), (.own [] .full)] [(0, 1, (.c (.d (.sc (.int .u8 7))))), (6, 5, (.t 136))], (some (134, true)), 0, 0⟩,
 ⟨(some 138), .callF 29 [(.t 137)], (some (134, true)), 0, 0⟩,
 ⟨(some 139), .pick (.t 134) (.t 138) (.c (.d (.sc (.bool false)))), none, 0, 0⟩,
 ⟨(some 6), .mov (.t 139), none, 0, 0⟩] false)
 (.seq
 (.region [⟨(some 140), .load 5 true (.t 1), none, 0, 0⟩,
 ⟨(some 141), .buildSlice 5 1 [(.sc (.int .u8 0)), (.sc (.int .i64 0)), (.sl []), (.sl []), (.sl [])] [(0, (.t 140))], none, 1, 0⟩,
 ⟨(some 142), .call 28 [(.t 141)], none, 3, 0⟩,
 ⟨(some 143), .build [(.d (.sc (.int .u8 0))), (.d (.sc (.int .i64 0))), (.d (.sc (.int .i64 0))), (.d (.sc (.int .u8 0))), (.d (.sc (.int .i64 0))), (.d (.sc (.int .i64 0))), (.d (.sc (.int .u8 0))), (.d (.sc (.int .i64 0))), (.own [] .full), (.own [] .full), (.own [] .full)] [(0, 1, (.c (.d (.sc (.int .u8 2))))), (1, 1, (.c (.d (.sc (.int .i64 1)))))], none, 0, 0⟩,
 ⟨(some 144), .callF 30 [(.t 142), (.t 143)], none, 15, 0⟩,
 ⟨(some 145), .mov (.t 144), none, 31, 0⟩,
 ⟨(some 146), .load 5 true (.t 1), (some (145, true)), 63, 0⟩,
 ⟨(some 147), .buildSlice 5 1 [(.sc (.int .u8 0)), (.sc (.int .i64 0)), (.sl []), (.sl []), (.sl [])] [(0, (.t 146))], (some (145, true)), 127, 0⟩,
 ⟨(some 148), .call 28 [(.t 147)], (some (145, true)), 255, 0⟩,
 ⟨(some 149), .build [(.d (.sc (.int .u8 0))), (.d (.sc (.int .i64 0))), (.d (.sc (.int .i64 0))), (.d (.sc (.int .u8 0))), (.d (.sc (.int .i64 0))), (.d (.sc (.int .i64 0))), (.d (.sc (.int .u8 0))), (.d (.sc (.int .i64 0))), (.own [] .full), (.own [] .full), (.own [] .full)] [(0, 1, (.c (.d (.sc (.int .u8 3))))), (2, 1, (.c (.d (.sc (.int .i64 1)))))], (some (145, true)), 63, 0⟩,
 ⟨(some 150), .callF 30 [(.t 148), (.t 149)], (some (145, true)), 1023, 0⟩,
 ⟨(some 151), .pick (.t 145) (.t 150) (.c (.d (.sc (.bool false)))), none, 2047, 0⟩,
 ⟨(some 152), .mov (.t 151), none, 4095, 0⟩,
 ⟨(some 153), .load 5 true (.t 1), (some (152, true)), 8191, 0⟩,
 ⟨(some 154), .buildSlice 5 1 [(.sc (.int .u8 0)), (.sc (.int .i64 0)), (.sl []), (.sl []), (.sl [])] [(0, (.t 153))], (some (152, true)), 16383, 0⟩,
 ⟨(some 155), .call 28 [(.t 154)], (some (152, true)), 32767, 0⟩,
 ⟨(some 156), .build [(.d (.sc (.int .u8 0))), (.d (.sc (.int .i64 0))), (.d (.sc (.int .i64 0))), (.d (.sc (.int .u8 0))), (.d (.sc (.int .i64 0))), (.d (.sc (.int .i64 0))), (.d (.sc (.int .u8 0))), (.d (.sc (.int .i64 0))), (.own [] .full), (.own [] .full), (.own [] .full)] [(0, 1, (.c (.d (.sc (.int .u8 6))))), (1, 1, (.c (.d (.sc (.int .i64 1)))))], (some (152, true)), 8191, 0⟩,
 ⟨(some 157), .callF 30 [(.t 155), (.t 156)], (some (152, true)), 131071, 0⟩,
 ⟨(some 158), .pick (.t 152) (.t 157) (.c (.d (.sc (.bool false)))), none, 262143, 0⟩,
 ⟨(some 159), .mov (.t 158), none, 524287, 0⟩,
 ⟨(some 160), .call 28 [(.c (.own [] .full))], (some (159, true)), 1048575, 0⟩,
 ⟨(some 161), .build [(.d (.sc (.int .u8 0))), (.d (.sc (.int .i64 0))), (.d (.sc (.int .i64 0))), (.d (.sc (.int .u8 0))), (.d (.sc (.int .i64 0))), (.d (.sc (.int .i64 0))), (.d (.sc (.int .u8 0))), (.d (.sc (.int .i64 0))), (.own [] .full), (.own [] .full), (.own [] .full)] [(0, 1, (.c (.d (.sc (.int .u8 6)))))], (some (159, true)), 1048575, 0⟩,
 ⟨(some 162), .callF 30 [(.t 160), (.t 161)], (some (159, true)), 4194303, 0⟩,
 ⟨(some 163), .pick (.t 159) (.t 162) (.c (.d (.sc (.bool false)))), none, 8388607, 0⟩,
 ⟨(some 164), .mov (.t 163), none, 16777215, 0⟩,
 ⟨(some 165), .call 28 [(.c (.own [] .full))], (some (164, true)), 33554431, 0⟩,
 ⟨(some 166), .build [(.d (.sc (.int .u8 0))), (.d (.sc (.int .i64 0))), (.d (.sc (.int .i64 0))), (.d (.sc (.int .u8 0))), (.d (.sc (.int .i64 0))), (.d (.sc (.int .i64 0))), (.d (.sc (.int .u8 0))), (.d (.sc (.int .i64 0))), (.own [] .full), (.own [] .full), (.own [] .full)] [(0, 1, (.c (.d (.sc (.int .u8 4)))))], (some (164, true)), 33554431, 0⟩,
 ⟨(some 167), .callF 30 [(.t 165), (.t 166)], (some (164, true)), 134217727, 0⟩,
 ⟨(some 168), .pick (.t 164) (.t 167) (.c (.d (.sc (.bool false)))), none, 268435455, 0⟩,
 ⟨(some 169), .mov (.t 168), none, 536870911, 0⟩,
 ⟨(some 170), .load 4 true (.t 2), (some (169, true)), 1073741823, 0⟩,
 ⟨(some 171), .build [(.d (.sc (.int .u8 0))), (.d (.sc (.int .i64 0))), (.d (.sc (.int .i64 0))), (.d (.sc (.int .u8 0))), (.d (.sc (.int .i64 0))), (.d (.sc (.int .i64 0))), (.d (.sc (.int .u8 0))), (.d (.sc (.int .i64 0))), (.own [] .full), (.own [] .full), (.own [] .full)] [(0, 1, (.c (.d (.sc (.int .u8 7)))))], (some (169, true)), 1073741823, 0⟩,
 ⟨(some 172), .callF 30 [(.t 170), (.t 171)], (some (169, true)), 4294967295, 0⟩,
 ⟨(some 173), .pick (.t 169) (.t 172) (.c (.d (.sc (.bool false)))), none, 8589934591, 0⟩,
 ⟨(some 174), .mov (.t 173), none, 17179869183, 0⟩,
 ⟨(some 175), .load 4 true (.t 5), (some (174, true)), 34359738367, 0⟩,
 ⟨(some 176), .makeSlice 4 48 [(.sc (.int .i64 0)), (.sc (.int .i64 0)), (.sc (.int .u64 0)), (.sl [])] (.c (.d (.sc (.int .i64 1)))) (.c (.d (.sc (.int .i64 1)))), (some (174, true)), 34359738367, 0⟩,
 ⟨(some 177), .build [(.d (.sc (.int .u8 0))), (.d (.sc (.int .i64 0))), (.own [] .full), (.own [] .full), (.own [] .full)] [(2, 1, (.t 176))], (some (174, true)), 103079215103, 0⟩,
 ⟨(some 178), .build [(.d (.sc (.int .u8 0))), (.d (.sc (.int .i64 0))), (.d (.sc (.int .i64 0))), (.d (.sc (.int .u8 0))), (.d (.sc (.int .i64 0))), (.d (.sc (.int .i64 0))), (.d (.sc (.int .u8 0))), (.d (.sc (.int .i64 0))), (.own [] .full), (.own [] .full), (.own [] .full)] [(0, 1, (.c (.d (.sc (.int .u8 3))))), (2, 1, (.c (.d (.sc (.int .i64 170))))), (6, 5, (.t 177))], (some (174, true)), 240518168575, 0⟩,
 ⟨(some 179), .callF 30 [(.t 175), (.t 178)], (some (174, true)), 549755813887, 0⟩,
 ⟨(some 180), .pick (.t 174) (.t 179) (.c (.d (.sc (.bool false)))), none, 1099511627775, 0⟩,
 ⟨(some 7), .mov (.t 180), none, 2199023255551, 0⟩] true)
 (.seq
 (.region [⟨(some 182), .load 4 true (.t 3), none, 0, 0⟩,
 ⟨(some 183), .call 28 [(.c (.own [] .full))], none, 0, 0⟩,
 ⟨(some 184), .call 10 [(.t 182), (.t 183)], none, 3, 0⟩,
 ⟨(some 181), .mov (.t 184), none, 7, 0⟩,
 ⟨(some 185), .extract (.t 181) 0, none, 15, 0⟩,
 ⟨(some 186), .extract (.t 181) 1, none, 15, 0⟩,
 ⟨(some 8), .mov (.t 185), none, 31, 0⟩,
 ⟨(some 9), .mov (.t 186), none, 127, 0⟩] true)
 (.seq
 (.region [⟨(some 188), .call 28 [(.c (.own [] .full))], none, 0, 0⟩,
 ⟨(some 189), .load 4 true (.t 4), none, 0, 0⟩,
 ⟨(some 190), .call 10 [(.t 188), (.t 189)], none, 3, 0⟩,
 ⟨(some 187), .mov (.t 190), none, 7, 0⟩,
 ⟨(some 191), .extract (.t 187) 0, none, 15, 0⟩,
 ⟨(some 192), .extract (.t 187) 1, none, 15, 0⟩,
 ⟨(some 10), .mov (.t 191), none, 31, 0⟩,
 ⟨(some 11), .mov (.t 192), none, 127, 0⟩] true)
 (.seq
 (.region [⟨(some 194), .load 4 true (.t 4), none, 0, 0⟩,
 ⟨(some 195), .load 4 true (.t 4), none, 0, 0⟩,
 ⟨(some 196), .callF 12 [(.t 194), (.t 195)], none, 0, 0⟩,
 ⟨(some 193), .mov (.t 196), none, 0, 0⟩,
 ⟨(some 197), .extract (.t 193) 0, none, 0, 0⟩,
 ⟨(some 198), .extract (.t 193) 1, none, 0, 0⟩,
 ⟨(some 12), .mov (.t 197), none, 0, 0⟩,
 ⟨(some 13), .mov (.t 198), none, 0, 0⟩] false)
 (.seq
 (.region [⟨(some 200), .load 4 true (.t 3), none, 0, 0⟩,
 ⟨(some 201), .makeSlice 11 136 [(.sc (.int .u8 0)), (.sc (.int .i64 0)), (.sc (.int .i64 0)), (.sc (.int .u8 0)), (.sc (.int .i64 0)), (.sc (.int .i64 0)), (.sc (.int .u8 0)), (.sc (.int .i64 0)), (.sl []), (.sl []), (.sl [])] (.c (.d (.sc (.int .i64 101)))) (.c (.d (.sc (.int .i64 101)))), none, 0, 0⟩,
 ⟨(some 202), .call 18 [(.t 200), (.t 201)], none, 3, 0⟩,
 ⟨(some 199), .mov (.t 202), none, 7, 0⟩,
 ⟨(some 203), .extract (.t 199) 0, none, 15, 0⟩,
 ⟨(some 204), .extract (.t 199) 1, none, 15, 0⟩,
 ⟨(some 14), .alloc [(.d (.sc (.int .u8 0))), (.d (.sc (.int .i64 0))), (.d (.sc (.int .i64 0))), (.own [] .full)], none, 0, 0⟩,
 ⟨none, .store 4 (.t 14) (.t 203), none, 95, 0⟩,
 ⟨(some 15), .mov (.t 204), none, 255, 0⟩] true)
 (.seq
 (.region [⟨(some 206), .call 28 [(.c (.own [] .full))], none, 0, 0⟩,
 ⟨(some 207), .makeSlice 11 136 [(.sc (.int .u8 0)), (.sc (.int .i64 0)), (.sc (.int .i64 0)), (.sc (.int .u8 0)), (.sc (.int .i64 0)), (.sc (.int .i64 0)), (.sc (.int .u8 0)), (.sc (.int .i64 0)), (.sl []), (.sl []), (.sl [])] (.c (.d (.sc (.int .i64 101)))) (.c (.d (.sc (.int .i64 101)))), none, 0, 0⟩,
 ⟨(some 208), .call 18 [(.t 206), (.t 207)], none, 3, 0⟩,
 ⟨(some 205), .mov (.t 208), none, 7, 0⟩,
 ⟨(some 209), .extract (.t 205) 0, none, 15, 0⟩,
 ⟨(some 210), .extract (.t 205) 1, none, 15, 0⟩,
 ⟨(some 16), .alloc [(.d (.sc (.int .u8 0))), (.d (.sc (.int .i64 0))), (.d (.sc (.int .i64 0))), (.own [] .full)], none, 0, 0⟩,
 ⟨none, .store 4 (.t 16) (.t 209), none, 95, 0⟩,
 ⟨(some 17), .mov (.t 210), none, 255, 0⟩] true)
 (.seq
 (.region [⟨(some 212), .makeSlice 11 136 [(.sc (.int .u8 0)), (.sc (.int .i64 0)), (.sc (.int .i64 0)), (.sc (.int .u8 0)), (.sc (.int .i64 0)), (.sc (.int .i64 0)), (.sc (.int .u8 0)), (.sc (.int .i64 0)), (.sl []), (.sl []), (.sl [])] (.c (.d (.sc (.int .i64 101)))) (.c (.d (.sc (.int .i64 101)))), none, 0, 0⟩,
 ⟨(some 213), .call 22 [(.t 212)], none, 0, 0⟩,
 ⟨(some 211), .mov (.t 213), none, 0, 0⟩,
 ⟨(some 214), .extract (.t 211) 0, none, 0, 0⟩,
 ⟨(some 215), .extract (.t 211) 1, none, 0, 0⟩,
 ⟨(some 18), .mov (.t 214), none, 0, 0⟩,
 ⟨(some 19), .mov (.t 215), none, 0, 0⟩] false)
 (.seq
 (.region [⟨(some 217), .load 4 true (.t 2), none, 0, 0⟩,
 ⟨(some 218), .load 4 true (.t 2), none, 0, 0⟩,
 ⟨(some 219), .call 10 [(.t 217), (.t 218)], none, 0, 0⟩,
 ⟨(some 216), .mov (.t 219), none, 0, 0⟩,
 ⟨(some 220), .extract (.t 216) 0, none, 0, 0⟩,
 ⟨(some 221), .extract (.t 216) 1, none, 0, 0⟩,
 ⟨(some 20), .mov (.t 220), none, 0, 0⟩,
 ⟨(some 21), .mov (.t 221), none, 0, 0⟩] false)
 (.seq
 (.region [⟨(some 223), .call 28 [(.c (.own [] .full))], none, 0, 0⟩,
 ⟨(some 224), .load 4 true (.t 2), none, 0, 0⟩,
 ⟨(some 225), .call 10 [(.t 223), (.t 224)], none, 3, 0⟩,
 ⟨(some 222), .mov (.t 225), none, 7, 0⟩,
 ⟨(some 226), .extract (.t 222) 0, none, 15, 0⟩,
 ⟨(some 227), .extract (.t 222) 1, none, 15, 0⟩,
 ⟨(some 22), .mov (.t 226), none, 31, 0⟩,
 ⟨(some 23), .mov (.t 227), none, 127, 0⟩] true)
 (.seq
 (.region [⟨(some 229), .load 4 true (.t 2), none, 0, 0⟩,
 ⟨(some 230), .build [(.d (.sc (.int .u8 0))), (.d (.sc (.int .i64 0))), (.d (.sc (.int .i64 0))), (.own [] .full)] [], none, 0, 0⟩,
 ⟨(some 231), .call 10 [(.t 229), (.t 230)], none, 0, 0⟩,
 ⟨(some 228), .mov (.t 231), none, 0, 0⟩,
 ⟨(some 232), .extract (.t 228) 0, none, 0, 0⟩,
 ⟨(some 233), .extract (.t 228) 1, none, 0, 0⟩,
 ⟨(some 24), .mov (.t 232), none, 0, 0⟩,
 ⟨(some 25), .mov (.t 233), none, 0, 0⟩] false)
 (.seq
 (.region [⟨(some 235), .load 4 true (.t 2), none, 0, 0⟩,
 ⟨(some 236), .mov (.t 24), none, 0, 0⟩,
 ⟨(some 237), .call 18 [(.t 235), (.t 236)], none, 0, 0⟩,
 ⟨(some 234), .mov (.t 237), none, 0, 0⟩,
 ⟨(some 238), .extract (.t 234) 0, none, 0, 0⟩,
 ⟨(some 239), .extract (.t 234) 1, none, 0, 0⟩,
 ⟨(some 26), .alloc [(.d (.sc (.int .u8 0))), (.d (.sc (.int .i64 0))), (.d (.sc (.int .i64 0))), (.own [] .full)], none, 0, 0⟩,
 ⟨none, .store 4 (.t 26) (.t 238), none, 0, 0⟩,
 ⟨(some 27), .mov (.t 239), none, 0, 0⟩] false)
 (.seq
 (.region [⟨(some 241), .build [(.d (.sc (.int .u8 0))), (.d (.sc (.int .i64 0))), (.d (.sc (.int .i64 0))), (.d (.sc (.int .u8 0))), (.d (.sc (.int .i64 0))), (.d (.sc (.int .i64 0))), (.d (.sc (.int .u8 0))), (.d (.sc (.int .i64 0))), (.own [] .full), (.own [] .full), (.own [] .full)] [(0, 1, (.c (.d (.sc (.int .u8 5))))), (1, 1, (.c (.d (.sc (.int .i64 15)))))], none, 0, 0⟩,
 ⟨(some 242), .build [(.d (.sc (.int .u8 0))), (.d (.sc (.int .i64 0))), (.d (.sc (.int .i64 0))), (.d (.sc (.int .u8 0))), (.d (.sc (.int .i64 0))), (.d (.sc (.int .i64 0))), (.d (.sc (.int .u8 0))), (.d (.sc (.int .i64 0))), (.own [] .full), (.own [] .full), (.own [] .full)] [(0, 1, (.c (.d (.sc (.int .u8 2)))))], none, 0, 0⟩,
 ⟨(some 243), .build [(.d (.sc (.int .u8 0))), (.d (.sc (.int .i64 0))), (.d (.sc (.int .i64 0))), (.d (.sc (.int .u8 0))), (.d (.sc (.int .i64 0))), (.d (.sc (.int .i64 0))), (.d (.sc (.int .u8 0))), (.d (.sc (.int .i64 0))), (.own [] .full), (.own [] .full), (.own [] .full)] [(0, 1, (.c (.d (.sc (.int .u8 6))))), (1, 1, (.c (.d (.sc (.int .i64 3)))))], none, 0, 0⟩,
 ⟨(some 244), .build [(.d (.sc (.int .u8 0))), (.d (.sc (.int .i64 0))), (.d (.sc (.int .i64 0))), (.d (.sc (.int .u8 0))), (.d (.sc (.int .i64 0))), (.d (.sc (.int .i64 0))), (.d (.sc (.int .u8 0))), (.d (.sc (.int .i64 0))), (.own [] .full), (.own [] .full), (.own [] .full)] [(0, 1, (.c (.d (.sc (.int .u8 4)))))], none, 0, 0⟩,
 ⟨(some 245), .build [(.d (.sc (.int .u8 0))), (.d (.sc (.int .i64 0))), (.d (.sc (.int .i64 0))), (.d (.sc (.int .u8 0))), (.d (.sc (.int .i64 0))), (.d (.sc (.int .i64 0))), (.d (.sc (.int .u8 0))), (.d (.sc (.int .i64 0))), (.own [] .full), (.own [] .full), (.own [] .full)] [(0, 1, (.c (.d (.sc (.int .u8 1)))))], none, 0, 0⟩,
 ⟨(some 246), .buildSlice 11 5 [(.sc (.int .u8 0)), (.sc (.int .i64 0)), (.sc (.int .i64 0)), (.sc (.int .u8 0)), (.sc (.int .i64 0)), (.sc (.int .i64 0)), (.sc (.int .u8 0)), (.sc (.int .i64 0)), (.sl []), (.sl []), (.sl [])] [(0, (.t 241)), (1, (.t 242)), (2, (.t 243)), (3, (.t 244)), (4, (.t 245))], none, 0, 0⟩,
 ⟨(some 247), .call 22 [(.t 246)], none, 0, 0⟩,
 ⟨(some 240), .mov (.t 247), none, 0, 0⟩,
 ⟨(some 248), .extract (.t 240) 0, none, 0, 0⟩,
 ⟨(some 249), .extract (.t 240) 1, none, 0, 0⟩,
 ⟨(some 28), .mov (.t 248), none, 0, 0⟩,
 ⟨(some 29), .mov (.t 249), none, 0, 0⟩] false)
 (.seq
 (.region [⟨(some 251), .load 5 true (.t 1), none, 0, 0⟩,
 ⟨(some 252), .buildSlice 5 1 [(.sc (.int .u8 0)), (.sc (.int .i64 0)), (.sl []), (.sl []), (.sl [])] [(0, (.t 251))], none, 1, 0⟩,
 ⟨(some 253), .call 28 [(.t 252)], none, 3, 0⟩,
 ⟨(some 254), .load 5 true (.t 1), none, 0, 0⟩,
 ⟨(some 255), .build [(.d (.sc (.int .u8 0))), (.d (.sc (.int .i64 0))), (.d (.sc (.int .i64 0))), (.d (.sc (.int .u8 0))), (.d (.sc (.int .i64 0))), (.d (.sc (.int .i64 0))), (.d (.sc (.int .u8 0))), (.d (.sc (.int .i64 0))), (.own [] .full), (.own [] .full), (.own [] .full)] [(0, 1, (.c (.d (.sc (.int .u8 7))))), (6, 5, (.t 254))], none, 8, 0⟩,
 ⟨(some 256), .build [(.d (.sc (.int .u8 0))), (.d (.sc (.int .i64 0))), (.own [] .full), (.own [] .full), (.own [] .full)] [(0, 1, (.c (.d (.sc (.int .u8 3)))))], none, 0, 0⟩,
 ⟨(some 257), .build [(.d (.sc (.int .u8 0))), (.d (.sc (.int .i64 0))), (.d (.sc (.int .i64 0))), (.d (.sc (.int .u8 0))), (.d (.sc (.int .i64 0))), (.d (.sc (.int .i64 0))), (.d (.sc (.int .u8 0))), (.d (.sc (.int .i64 0))), (.own [] .full), (.own [] .full), (.own [] .full)] [(0, 1, (.c (.d (.sc (.int .u8 2))))), (1, 1, (.c (.d (.sc (.int .i64 1))))), (6, 5, (.t 256))], none, 32, 0⟩,
 ⟨(some 258), .build [(.d (.sc (.int .u8 0))), (.d (.sc (.int .i64 0))), (.d (.sc (.int .i64 0))), (.d (.sc (.int .u8 0))), (.d (.sc (.int .i64 0))), (.d (.sc (.int .i64 0))), (.d (.sc (.int .u8 0))), (.d (.sc (.int .i64 0))), (.own [] .full), (.own [] .full), (.own [] .full)] [(0, 1, (.c (.d (.sc (.int .u8 6))))), (1, 1, (.c (.d (.sc (.int .i64 0)))))], none, 0, 0⟩,
 ⟨(some 259), .build [(.d (.sc (.int .u8 0))), (.d (.sc (.int .i64 0))), (.d (.sc (.int .i64 0))), (.d (.sc (.int .u8 0))), (.d (.sc (.int .i64 0))), (.d (.sc (.int .i64 0))), (.d (.sc (.int .u8 0))), (.d (.sc (.int .i64 0))), (.own [] .full), (.own [] .full), (.own [] .full)] [(0, 1, (.c (.d (.sc (.int .u8 7)))))], none, 0, 0⟩,
 ⟨(some 260), .buildSlice 11 4 [(.sc (.int .u8 0)), (.sc (.int .i64 0)), (.sc (.int .i64 0)), (.sc (.int .u8 0)), (.sc (.int .i64 0)), (.sc (.int .i64 0)), (.sc (.int .u8 0)), (.sc (.int .i64 0)), (.sl []), (.sl []), (.sl [])] [(0, (.t 255)), (1, (.t 257)), (2, (.t 258)), (3, (.t 259))], none, 504, 0⟩,
 ⟨(some 261), .call 18 [(.t 253), (.t 260)], none, 1023, 0⟩,
 ⟨(some 250), .mov (.t 261), none, 2047, 0⟩,
 ⟨(some 262), .extract (.t 250) 0, none, 4095, 0⟩,
 ⟨(some 263), .extract (.t 250) 1, none, 4095, 0⟩,
 ⟨(some 30), .alloc [(.d (.sc (.int .u8 0))), (.d (.sc (.int .i64 0))), (.d (.sc (.int .i64 0))), (.own [] .full)], none, 0, 0⟩,
 ⟨none, .store 4 (.t 30) (.t 262), none, 24575, 0⟩,
 ⟨(some 31), .mov (.t 263), none, 65535, 0⟩] true)
 (.seq
 (.region [⟨(some 265), .load 4 true (.t 30), none, 0, 0⟩,
 ⟨(some 266), .build [(.d (.sc (.int .u8 0))), (.d (.sc (.int .i64 0))), (.own [] .full), (.own [] .full), (.own [] .full)] [], none, 0, 0⟩,
 ⟨(some 267), .buildSlice 5 1 [(.sc (.int .u8 0)), (.sc (.int .i64 0)), (.sl []), (.sl []), (.sl [])] [(0, (.t 266))], none, 2, 0⟩,
 ⟨(some 268), .call 28 [(.t 267)], none, 6, 0⟩,
 ⟨(some 269), .callF 12 [(.t 265), (.t 268)], none, 15, 0⟩,
 ⟨(some 264), .mov (.t 269), none, 31, 0⟩,
 ⟨(some 270), .extract (.t 264) 0, none, 63, 0⟩,
 ⟨(some 271), .extract (.t 264) 1, none, 63, 0⟩,
 ⟨(some 32), .mov (.t 270), none, 127, 0⟩,
 ⟨(some 33), .mov (.t 271), none, 511, 0⟩] true)
 (.seq
 (.region [⟨(some 272), .mov (.c (.d (.sc (.bool true)))), none, 0, 0⟩,
 ⟨(some 273), .mov (.t 6), (some (272, true)), 0, 0⟩,
 ⟨(some 274), .pick (.t 272) (.t 273) (.c (.d (.sc (.bool false)))), none, 0, 0⟩,
 ⟨(some 275), .mov (.t 274), none, 0, 0⟩,
 ⟨(some 276), .mov (.t 7), (some (275, true)), 0, 0⟩,
 ⟨(some 277), .pick (.t 275) (.t 276) (.c (.d (.sc (.bool false)))), none, 0, 0⟩,
 ⟨(some 278), .mov (.t 277), none, 0, 0⟩,
 ⟨(some 279), .mov (.t 9), (some (278, true)), 0, 0⟩,
 ⟨(some 280), .bin .eql (.t 279) (.c (.d (.sc (.int .i64 4)))), (some (278, true)), 0, 0⟩,
 ⟨(some 281), .pick (.t 278) (.t 280) (.c (.d (.sc (.bool false)))), none, 0, 0⟩,
 ⟨(some 282), .mov (.t 281), none, 0, 0⟩,
 ⟨(some 283), .mov (.t 11), (some (282, true)), 0, 0⟩,
 ⟨(some 284), .bin .eql (.t 283) (.c (.d (.sc (.int .i64 4)))), (some (282, true)), 0, 0⟩,
 ⟨(some 285), .pick (.t 282) (.t 284) (.c (.d (.sc (.bool false)))), none, 0, 0⟩,
 ⟨(some 286), .mov (.t 285), none, 0, 0⟩,
 ⟨(some 287), .mov (.t 13), (some (286, true)), 0, 0⟩,
 ⟨(some 288), .bin .eql (.t 287) (.c (.d (.sc (.int .i64 4)))), (some (286, true)), 0, 0⟩,
 ⟨(some 289), .pick (.t 286) (.t 288) (.c (.d (.sc (.bool false)))), none, 0, 0⟩,
 ⟨(some 290), .mov (.t 289), none, 0, 0⟩,
 ⟨(some 291), .mov (.t 15), (some (290, true)), 0, 0⟩,
 ⟨(some 292), .bin .eql (.t 291) (.c (.d (.sc (.int .i64 4)))), (some (290, true)), 0, 0⟩,
 ⟨(some 293), .pick (.t 290) (.t 292) (.c (.d (.sc (.bool false)))), none, 0, 0⟩,
 ⟨(some 294), .mov (.t 293), none, 0, 0⟩,
 ⟨(some 295), .mov (.t 17), (some (294, true)), 0, 0⟩,
 ⟨(some 296), .bin .eql (.t 295) (.c (.d (.sc (.int .i64 4)))), (some (294, true)), 0, 0⟩,
 ⟨(some 297), .pick (.t 294) (.t 296) (.c (.d (.sc (.bool false)))), none, 0, 0⟩,
 ⟨(some 298), .mov (.t 297), none, 0, 0⟩,
 ⟨(some 299), .mov (.t 19), (some (298, true)), 0, 0⟩,
 ⟨(some 300), .bin .eql (.t 299) (.c (.d (.sc (.int .i64 4)))), (some (298, true)), 0, 0⟩,
 ⟨(some 301), .pick (.t 298) (.t 300) (.c (.d (.sc (.bool false)))), none, 0, 0⟩,
 ⟨(some 302), .mov (.t 301), none, 0, 0⟩,
 ⟨(some 303), .mov (.t 21), (some (302, true)), 0, 0⟩,
 ⟨(some 304), .bin .eql (.t 303) (.c (.d (.sc (.int .i64 0)))), (some (302, true)), 0, 0⟩,
 ⟨(some 305), .pick (.t 302) (.t 304) (.c (.d (.sc (.bool false)))), none, 0, 0⟩,
 ⟨(some 306), .mov (.t 305), none, 0, 0⟩,
 ⟨(some 307), .mov (.t 20), (some (306, true)), 0, 0⟩,
 ⟨(some 308), .len (.t 307), (some (306, true)), 0, 0⟩,
 ⟨(some 309), .bin .eql (.t 308) (.c (.d (.sc (.int .i64 0)))), (some (306, true)), 0, 0⟩,
 ⟨(some 310), .pick (.t 306) (.t 309) (.c (.d (.sc (.bool false)))), none, 0, 0⟩,
 ⟨(some 311), .mov (.t 310), none, 0, 0⟩,
 ⟨(some 312), .mov (.t 23), (some (311, true)), 0, 0⟩,
 ⟨(some 313), .bin .eql (.t 312) (.c (.d (.sc (.int .i64 0)))), (some (311, true)), 0, 0⟩,
 ⟨(some 314), .pick (.t 311) (.t 313) (.c (.d (.sc (.bool false)))), none, 0, 0⟩,
 ⟨(some 315), .mov (.t 314), none, 0, 0⟩,
 ⟨(some 316), .mov (.t 22), (some (315, true)), 0, 0⟩,
 ⟨(some 317), .len (.t 316), (some (315, true)), 0, 0⟩,
 ⟨(some 318), .bin .eql (.t 317) (.c (.d (.sc (.int .i64 17)))), (some (315, true)), 0, 0⟩,
 ⟨(some 319), .pick (.t 315) (.t 318) (.c (.d (.sc (.bool false)))), none, 0, 0⟩,
 ⟨(some 320), .mov (.t 319), none, 0, 0⟩,
 ⟨(some 321), .mov (.t 25), (some (320, true)), 0, 0⟩,
 ⟨(some 322), .bin .eql (.t 321) (.c (.d (.sc (.int .i64 0)))), (some (320, true)), 0, 0⟩,
 ⟨(some 323), .pick (.t 320) (.t 322) (.c (.d (.sc (.bool false)))), none, 0, 0⟩,
 ⟨(some 324), .mov (.t 323), none, 0, 0⟩,
 ⟨(some 325), .mov (.t 24), (some (324, true)), 0, 0⟩,
 ⟨(some 326), .len (.t 325), (some (324, true)), 0, 0⟩,
 ⟨(some 327), .bin .eql (.t 326) (.c (.d (.sc (.int .i64 1)))), (some (324, true)), 0, 0⟩,
 ⟨(some 328), .pick (.t 324) (.t 327) (.c (.d (.sc (.bool false)))), none, 0, 0⟩,
 ⟨(some 329), .mov (.t 328), none, 0, 0⟩,
 ⟨(some 330), .mov (.t 27), (some (329, true)), 0, 0⟩,
 ⟨(some 331), .bin .eql (.t 330) (.c (.d (.sc (.int .i64 0)))), (some (329, true)), 0, 0⟩,
 ⟨(some 332), .pick (.t 329) (.t 331) (.c (.d (.sc (.bool false)))), none, 0, 0⟩,
 ⟨(some 333), .mov (.t 332), none, 0, 0⟩,
 ⟨(some 334), .fieldAddr 3 (.t 26), (some (333, true)), 0, 0⟩,
 ⟨(some 335), .load 1 false (.t 334), (some (333, true)), 0, 0⟩,
 ⟨(some 336), .len (.t 335), (some (333, true)), 0, 0⟩,
 ⟨(some 337), .bin .eql (.t 336) (.c (.d (.sc (.int .i64 0)))), (some (333, true)), 0, 0⟩,
 ⟨(some 338), .pick (.t 333) (.t 337) (.c (.d (.sc (.bool false)))), none, 0, 0⟩,
 ⟨(some 339), .mov (.t 338), none, 0, 0⟩,
 ⟨(some 340), .mov (.t 29), (some (339, true)), 0, 0⟩,
 ⟨(some 341), .bin .eql (.t 340) (.c (.d (.sc (.int .i64 0)))), (some (339, true)), 0, 0⟩,
 ⟨(some 342), .pick (.t 339) (.t 341) (.c (.d (.sc (.bool false)))), none, 0, 0⟩,
 ⟨(some 343), .mov (.t 342), none, 0, 0⟩,
 ⟨(some 344), .mov (.t 28), (some (343, true)), 0, 0⟩,
 ⟨(some 345), .len (.t 344), (some (343, true)), 0, 0⟩,
 ⟨(some 346), .bin .eql (.t 345) (.c (.d (.sc (.int .i64 2)))), (some (343, true)), 0, 0⟩,
 ⟨(some 347), .pick (.t 343) (.t 346) (.c (.d (.sc (.bool false)))), none, 0, 0⟩,
 ⟨(some 348), .mov (.t 347), none, 0, 0⟩,
 ⟨(some 349), .mov (.t 28), (some (348, true)), 0, 0⟩,
 ⟨(some 350), .indexAddr 1 (.t 349) (.c (.d (.sc (.int .i64 0)))), (some (348, true)), 0, 0⟩,
 ⟨(some 351), .load 1 false (.t 350), (some (348, true)), 0, 0⟩,
 ⟨(some 352), .bin .eql (.t 351) (.c (.d (.sc (.int .i64 0)))), (some (348, true)), 0, 0⟩,
 ⟨(some 353), .pick (.t 348) (.t 352) (.c (.d (.sc (.bool false)))), none, 0, 0⟩,
 ⟨(some 354), .mov (.t 353), none, 0, 0⟩,
 ⟨(some 355), .mov (.t 28), (some (354, true)), 0, 0⟩,
 ⟨(some 356), .indexAddr 1 (.t 355) (.c (.d (.sc (.int .i64 1)))), (some (354, true)), 0, 0⟩,
 ⟨(some 357), .load 1 false (.t 356), (some (354, true)), 0, 0⟩,
 ⟨(some 358), .bin .eql (.t 357) (.c (.d (.sc (.int .i64 15)))), (some (354, true)), 0, 0⟩,
 ⟨(some 359), .pick (.t 354) (.t 358) (.c (.d (.sc (.bool false)))), none, 0, 0⟩,
 ⟨(some 360), .mov (.t 359), none, 0, 0⟩,
 ⟨(some 361), .mov (.t 31), (some (360, true)), 0, 0⟩,
 ⟨(some 362), .bin .eql (.t 361) (.c (.d (.sc (.int .i64 0)))), (some (360, true)), 0, 0⟩,
 ⟨(some 363), .pick (.t 360) (.t 362) (.c (.d (.sc (.bool false)))), none, 0, 0⟩,
 ⟨(some 364), .mov (.t 363), none, 0, 0⟩,
 ⟨(some 365), .mov (.t 33), (some (364, true)), 0, 0⟩,
 ⟨(some 366), .bin .eql (.t 365) (.c (.d (.sc (.int .i64 0)))), (some (364, true)), 0, 0⟩,
 ⟨(some 367), .pick (.t 364) (.t 366) (.c (.d (.sc (.bool false)))), none, 0, 0⟩,
 ⟨(some 368), .mov (.t 367), none, 0, 0⟩,
 ⟨(some 369), .mov (.t 32), (some (368, true)), 0, 0⟩,
 ⟨(some 370), .pick (.t 368) (.t 369) (.c (.d (.sc (.bool false)))), none, 0, 0⟩,
 ⟨(some 371), .mov (.t 370), none, 0, 0⟩,
 ⟨(some 372), .callF 15 [], (some (371, true)), 0, 0⟩,
 ⟨(some 373), .pick (.t 371) (.t 372) (.c (.d (.sc (.bool false)))), none, 0, 0⟩,
 ⟨(some 0), .mov (.t 373), none, 0, 0⟩] false)
 .ret)))))))))))))))))))))), false⟩
/-- wreckage/differ.List -/
def t10 : AFn := ⟨2, 98, [.t 4, .t 5],
 (.seq
 (.region [⟨(some 2), .box (.t 0), none, 0, 0⟩,
 ⟨(some 3), .box (.t 1), none, 0, 0⟩,
 ⟨(some 4), .mov (.c (.own [] .full)), none, 0, 0⟩,
 ⟨(some 5), .mov (.c (.d (.sc (.int .i64 0)))), none, 0, 0⟩] false)
 (.seq
 (.seq
 (.region [⟨(some 11), .load 4 true (.t 2), none, 0, 0⟩,
 ⟨(some 12), .load 4 true (.t 3), none, 0, 0⟩,
 ⟨(some 13), .buildSlice 4 2 [(.sc (.int .u8 0)), (.sc (.int .i64 0)), (.sc (.int .i64 0)), (.sl [])] [(0, (.t 11)), (1, (.t 12))], none, 0, 2⟩,
 ⟨(some 14), .callF 31 [(.t 13)], none, 0, 0⟩,
 ⟨(some 15), .un .not (.t 14), none, 0, 0⟩] false)
 (.cond (.t 15)
 (.seq
 (.region [⟨(some 4), .mov (.c (.own [] .full)), none, 0, 0⟩,
 ⟨(some 5), .mov (.c (.d (.sc (.int .i64 4)))), none, 0, 0⟩] false)
 .ret)
 .skip))
 (.seq
 (.region [⟨(some 6), .mov (.c (.own [] .full)), none, 0, 0⟩] false)
 (.seq
 (.seq
 (.region [⟨(some 16), .fieldAddr 0 (.t 2), none, 0, 0⟩,
 ⟨(some 17), .load 1 false (.t 16), none, 0, 0⟩,
 ⟨(some 18), .fieldAddr 0 (.t 3), none, 0, 0⟩,
 ⟨(some 19), .load 1 false (.t 18), none, 0, 0⟩,
 ⟨(some 20), .bin .neq (.t 17) (.t 19), none, 0, 0⟩,
 ⟨(some 21), .mov (.t 20), none, 0, 0⟩,
 ⟨(some 22), .fieldAddr 1 (.t 2), (some (21, false)), 0, 0⟩,
 ⟨(some 23), .load 1 false (.t 22), (some (21, false)), 0, 0⟩,
 ⟨(some 24), .fieldAddr 1 (.t 3), (some (21, false)), 0, 0⟩,
 ⟨(some 25), .load 1 false (.t 24), (some (21, false)), 0, 0⟩,
 ⟨(some 26), .bin .neq (.t 23) (.t 25), (some (21, false)), 0, 0⟩,
 ⟨(some 27), .pick (.t 21) (.c (.d (.sc (.bool true)))) (.t 26), none, 0, 0⟩,
 ⟨(some 28), .mov (.t 27), none, 0, 0⟩,
 ⟨(some 29), .fieldAddr 2 (.t 2), (some (28, false)), 0, 0⟩,
 ⟨(some 30), .load 1 false (.t 29), (some (28, false)), 0, 0⟩,
 ⟨(some 31), .fieldAddr 2 (.t 3), (some (28, false)), 0, 0⟩,
 ⟨(some 32), .load 1 false (.t 31), (some (28, false)), 0, 0⟩,
 ⟨(some 33), .bin .neq (.t 30) (.t 32), (some (28, false)), 0, 0⟩,
 ⟨(some 34), .pick (.t 28) (.c (.d (.sc (.bool true)))) (.t 33), none, 0, 0⟩] false)
 (.cond (.t 34)
 (.region [⟨(some 35), .mov (.t 6), none, 0, 0⟩,
 ⟨(some 36), .fieldAddr 0 (.t 3), none, 0, 0⟩,
 ⟨(some 37), .load 1 false (.t 36), none, 0, 0⟩,
 ⟨(some 38), .fieldAddr 1 (.t 3), none, 0, 0⟩,
 ⟨(some 39), .load 1 false (.t 38), none, 0, 0⟩,
 ⟨(some 40), .fieldAddr 2 (.t 3), none, 0, 0⟩,
 ⟨(some 41), .load 1 false (.t 40), none, 0, 0⟩,
 ⟨(some 42), .build [(.d (.sc (.int .u8 0))), (.d (.sc (.int .i64 0))), (.d (.sc (.int .i64 0))), (.d (.sc (.int .u8 0))), (.d (.sc (.int .i64 0))), (.d (.sc (.int .i64 0))), (.d (.sc (.int .u8 0))), (.d (.sc (.int .i64 0))), (.own [] .full), (.own [] .full), (.own [] .full)] [(0, 1, (.c (.d (.sc (.int .u8 1))))), (3, 1, (.t 37)), (4, 1, (.t 39)), (5, 1, (.t 41))], none, 0, 0⟩,
 ⟨(some 43), .buildSlice 11 1 [(.sc (.int .u8 0)), (.sc (.int .i64 0)), (.sc (.int .i64 0)), (.sc (.int .u8 0)), (.sc (.int .i64 0)), (.sc (.int .i64 0)), (.sc (.int .u8 0)), (.sc (.int .i64 0)), (.sl []), (.sl []), (.sl [])] [(0, (.t 42))], none, 0, 0⟩,
 ⟨(some 44), .append 11 136 (.t 35) (.t 43), none, 0, 0⟩,
 ⟨(some 6), .mov (.t 44), none, 0, 0⟩] false)
 .skip))
 (.seq
 (.region [⟨(some 45), .fieldAddr 3 (.t 2), none, 0, 0⟩,
 ⟨(some 46), .load 1 false (.t 45), none, 0, 0⟩,
 ⟨(some 47), .len (.t 46), none, 0, 0⟩,
 ⟨(some 48), .fieldAddr 3 (.t 3), none, 0, 0⟩,
 ⟨(some 49), .load 1 false (.t 48), none, 0, 0⟩,
 ⟨(some 50), .len (.t 49), none, 0, 0⟩,
 ⟨(some 51), .mini (.t 47) (.t 50), none, 0, 0⟩,
 ⟨(some 7), .mov (.t 51), none, 0, 0⟩] false)
 (.seq
 (.seq
 (.region [⟨(some 52), .mov (.t 7), none, 0, 0⟩,
 ⟨(some 53), .mov (.c (.d (.sc (.int .i64 0)))), none, 0, 0⟩] false)
 (.block 0
 (.loop
 (.seq
 (.region [⟨(some 54), .bin .lss (.t 53) (.t 52), none, 0, 0⟩] false)
 (.seq
 (.cond (.t 54)
 .skip
 (.exit 0))
 (.seq
 (.block 1
 (.seq
 (.region [⟨(some 55), .mov (.t 53), none, 0, 0⟩,
 ⟨(some 8), .mov (.t 55), none, 0, 0⟩] false)
 (.region [⟨(some 56), .mov (.t 6), none, 0, 0⟩,
 ⟨(some 57), .mov (.t 8), none, 0, 0⟩,
 ⟨(some 58), .fieldAddr 3 (.t 2), none, 0, 0⟩,
 ⟨(some 59), .load 1 false (.t 58), none, 4, 0⟩,
 ⟨(some 60), .mov (.t 8), none, 0, 0⟩,
 ⟨(some 61), .indexAddr 5 (.t 59) (.t 60), none, 28, 0⟩,
 ⟨(some 62), .load 5 true (.t 61), none, 60, 0⟩,
 ⟨(some 63), .fieldAddr 3 (.t 3), none, 0, 0⟩,
 ⟨(some 64), .load 1 false (.t 63), none, 128, 0⟩,
 ⟨(some 65), .mov (.t 8), none, 0, 0⟩,
 ⟨(some 66), .indexAddr 5 (.t 64) (.t 65), none, 896, 0⟩,
 ⟨(some 67), .load 5 true (.t 66), none, 1920, 0⟩,
 ⟨(some 68), .call 32 [(.t 57), (.t 62), (.t 67)], none, 4094, 0⟩,
 ⟨(some 69), .append 11 136 (.t 56) (.t 68), none, 8191, 0⟩,
 ⟨(some 6), .mov (.t 69), none, 16383, 0⟩] true)))
 (.region [⟨(some 70), .bin .add (.t 53) (.c (.d (.sc (.int .i64 1)))), none, 0, 0⟩,
 ⟨(some 53), .mov (.t 70), none, 0, 0⟩] false)))))))
 (.seq
 (.seq
 (.region [⟨(some 71), .mov (.t 7), none, 0, 0⟩,
 ⟨(some 72), .fieldAddr 3 (.t 2), none, 0, 0⟩,
 ⟨(some 73), .load 1 false (.t 72), none, 0, 0⟩,
 ⟨(some 74), .len (.t 73), none, 0, 0⟩,
 ⟨(some 75), .bin .lss (.t 71) (.t 74), none, 0, 0⟩] false)
 (.cond (.t 75)
 (.region [⟨(some 76), .mov (.t 6), none, 0, 0⟩,
 ⟨(some 77), .mov (.t 7), none, 0, 0⟩,
 ⟨(some 78), .build [(.d (.sc (.int .u8 0))), (.d (.sc (.int .i64 0))), (.d (.sc (.int .i64 0))), (.d (.sc (.int .u8 0))), (.d (.sc (.int .i64 0))), (.d (.sc (.int .i64 0))), (.d (.sc (.int .u8 0))), (.d (.sc (.int .i64 0))), (.own [] .full), (.own [] .full), (.own [] .full)] [(0, 1, (.c (.d (.sc (.int .u8 6))))), (1, 1, (.t 77))], none, 0, 0⟩,
 ⟨(some 79), .buildSlice 11 1 [(.sc (.int .u8 0)), (.sc (.int .i64 0)), (.sc (.int .i64 0)), (.sc (.int .u8 0)), (.sc (.int .i64 0)), (.sc (.int .i64 0)), (.sc (.int .u8 0)), (.sc (.int .i64 0)), (.sl []), (.sl []), (.sl [])] [(0, (.t 78))], none, 0, 0⟩,
 ⟨(some 80), .append 11 136 (.t 76) (.t 79), none, 0, 0⟩,
 ⟨(some 6), .mov (.t 80), none, 0, 0⟩] false)
 .skip))
 (.seq
 (.seq
 (.region [⟨(some 81), .fieldAddr 3 (.t 3), none, 0, 0⟩,
 ⟨(some 82), .load 1 false (.t 81), none, 0, 0⟩,
 ⟨(some 83), .mov (.t 7), none, 0, 0⟩,
 ⟨(some 84), .slice 5 (.t 82) (some (.t 83)) none none, none, 0, 0⟩,
 ⟨(some 85), .len (.t 84), none, 0, 0⟩,
 ⟨(some 86), .mov (.c (.d (.sc (.int .i64 0)))), none, 0, 0⟩] false)
 (.block 2
 (.loop
 (.seq
 (.region [⟨(some 87), .bin .lss (.t 86) (.t 85), none, 0, 0⟩] false)
 (.seq
 (.cond (.t 87)
 .skip
 (.exit 2))
 (.seq
 (.block 3
 (.seq
 (.region [⟨(some 88), .indexAddr 5 (.t 84) (.t 86), none, 0, 0⟩,
 ⟨(some 89), .load 5 true (.t 88), none, 0, 0⟩,
 ⟨(some 10), .alloc [(.d (.sc (.int .u8 0))), (.d (.sc (.int .i64 0))), (.own [] .full), (.own [] .full), (.own [] .full)], none, 0, 0⟩,
 ⟨none, .store 5 (.t 10) (.t 89), none, 0, 0⟩] false)
 (.region [⟨(some 90), .mov (.t 6), none, 0, 0⟩,
 ⟨(some 91), .load 5 true (.t 10), none, 0, 0⟩,
 ⟨(some 92), .call 33 [(.t 91)], none, 0, 0⟩,
 ⟨(some 93), .build [(.d (.sc (.int .u8 0))), (.d (.sc (.int .i64 0))), (.d (.sc (.int .i64 0))), (.d (.sc (.int .u8 0))), (.d (.sc (.int .i64 0))), (.d (.sc (.int .i64 0))), (.d (.sc (.int .u8 0))), (.d (.sc (.int .i64 0))), (.own [] .full), (.own [] .full), (.own [] .full)] [(0, 1, (.c (.d (.sc (.int .u8 7))))), (6, 5, (.t 92))], none, 0, 0⟩,
 ⟨(some 94), .buildSlice 11 1 [(.sc (.int .u8 0)), (.sc (.int .i64 0)), (.sc (.int .i64 0)), (.sc (.int .u8 0)), (.sc (.int .i64 0)), (.sc (.int .i64 0)), (.sc (.int .u8 0)), (.sc (.int .i64 0)), (.sl []), (.sl []), (.sl [])] [(0, (.t 93))], none, 0, 0⟩,
 ⟨(some 95), .append 11 136 (.t 90) (.t 94), none, 0, 0⟩,
 ⟨(some 6), .mov (.t 95), none, 0, 0⟩] false)))
 (.region [⟨(some 96), .bin .add (.t 86) (.c (.d (.sc (.int .i64 1)))), none, 0, 0⟩,
 ⟨(some 86), .mov (.t 96), none, 0, 0⟩] false)))))))
 (.seq
 (.region [⟨(some 97), .mov (.t 6), none, 0, 0⟩,
 ⟨(some 4), .mov (.t 97), none, 0, 0⟩,
 ⟨(some 5), .mov (.c (.d (.sc (.int .i64 0)))), none, 0, 0⟩] false)
 .ret))))))))), false⟩
/-- wreckage/differ.Same -/
def t12 : AFn := ⟨2, 37, [.t 4, .t 5],
 (.seq
 (.region [⟨(some 2), .box (.t 0), none, 0, 0⟩,
 ⟨(some 3), .box (.t 1), none, 0, 0⟩,
 ⟨(some 4), .mov (.c (.d (.sc (.bool false)))), none, 0, 0⟩,
 ⟨(some 5), .mov (.c (.d (.sc (.int .i64 0)))), none, 0, 0⟩] false)
 (.seq
 (.seq
 (.region [⟨(some 6), .load 4 true (.t 2), none, 0, 0⟩,
 ⟨(some 7), .load 4 true (.t 3), none, 0, 0⟩,
 ⟨(some 8), .buildSlice 4 2 [(.sc (.int .u8 0)), (.sc (.int .i64 0)), (.sc (.int .i64 0)), (.sl [])] [(0, (.t 6)), (1, (.t 7))], none, 0, 2⟩,
 ⟨(some 9), .callF 31 [(.t 8)], none, 0, 0⟩,
 ⟨(some 10), .un .not (.t 9), none, 0, 0⟩] false)
 (.cond (.t 10)
 (.seq
 (.region [⟨(some 4), .mov (.c (.d (.sc (.bool false)))), none, 0, 0⟩,
 ⟨(some 5), .mov (.c (.d (.sc (.int .i64 4)))), none, 0, 0⟩] false)
 .ret)
 .skip))
 (.seq
 (.region [⟨(some 11), .fieldAddr 0 (.t 2), none, 0, 0⟩,
 ⟨(some 12), .load 1 false (.t 11), none, 0, 0⟩,
 ⟨(some 13), .fieldAddr 0 (.t 3), none, 0, 0⟩,
 ⟨(some 14), .load 1 false (.t 13), none, 0, 0⟩,
 ⟨(some 15), .bin .eql (.t 12) (.t 14), none, 0, 0⟩,
 ⟨(some 16), .mov (.t 15), none, 0, 0⟩,
 ⟨(some 17), .fieldAddr 1 (.t 2), (some (16, true)), 0, 0⟩,
 ⟨(some 18), .load 1 false (.t 17), (some (16, true)), 0, 0⟩,
 ⟨(some 19), .fieldAddr 1 (.t 3), (some (16, true)), 0, 0⟩,
 ⟨(some 20), .load 1 false (.t 19), (some (16, true)), 0, 0⟩,
 ⟨(some 21), .bin .eql (.t 18) (.t 20), (some (16, true)), 0, 0⟩,
 ⟨(some 22), .pick (.t 16) (.t 21) (.c (.d (.sc (.bool false)))), none, 0, 0⟩,
 ⟨(some 23), .mov (.t 22), none, 0, 0⟩,
 ⟨(some 24), .fieldAddr 2 (.t 2), (some (23, true)), 0, 0⟩,
 ⟨(some 25), .load 1 false (.t 24), (some (23, true)), 0, 0⟩,
 ⟨(some 26), .fieldAddr 2 (.t 3), (some (23, true)), 0, 0⟩,
 ⟨(some 27), .load 1 false (.t 26), (some (23, true)), 0, 0⟩,
 ⟨(some 28), .bin .eql (.t 25) (.t 27), (some (23, true)), 0, 0⟩,
 ⟨(some 29), .pick (.t 23) (.t 28) (.c (.d (.sc (.bool false)))), none, 0, 0⟩,
 ⟨(some 30), .mov (.t 29), none, 0, 0⟩,
 ⟨(some 31), .fieldAddr 3 (.t 2), (some (30, true)), 0, 0⟩,
 ⟨(some 32), .load 1 false (.t 31), (some (30, true)), 0, 0⟩,
 ⟨(some 33), .fieldAddr 3 (.t 3), (some (30, true)), 0, 0⟩,
 ⟨(some 34), .load 1 false (.t 33), (some (30, true)), 0, 0⟩,
 ⟨(some 35), .callF 36 [(.t 32), (.t 34), (.c (.clo 37 []))], (some (30, true)), 0, 0⟩,
 ⟨(some 36), .pick (.t 30) (.t 35) (.c (.d (.sc (.bool false)))), none, 0, 0⟩,
 ⟨(some 4), .mov (.t 36), none, 0, 0⟩,
 ⟨(some 5), .mov (.c (.d (.sc (.int .i64 0)))), none, 0, 0⟩] false)
 .ret))), false⟩
/-- wreckage/wreckageref43.SameEdits -/
def t14 : AFn := ⟨2, 27, [.t 4],
 (.seq
 (.region [⟨(some 4), .mov (.c (.d (.sc (.bool false)))), none, 0, 0⟩] false)
 (.seq
 (.seq
 (.region [⟨(some 6), .mov (.t 0), none, 0, 0⟩,
 ⟨(some 7), .len (.t 6), none, 0, 0⟩,
 ⟨(some 8), .mov (.t 1), none, 0, 0⟩,
 ⟨(some 9), .len (.t 8), none, 0, 0⟩,
 ⟨(some 10), .bin .neq (.t 7) (.t 9), none, 0, 0⟩] false)
 (.cond (.t 10)
 (.seq
 (.region [⟨(some 4), .mov (.c (.d (.sc (.bool false)))), none, 0, 0⟩] false)
 .ret)
 .skip))
 (.seq
 (.seq
 (.region [⟨(some 5), .mov (.c (.d (.sc (.int .i64 0)))), none, 0, 0⟩] false)
 (.block 0
 (.loop
 (.seq
 (.seq
 (.region [⟨(some 11), .mov (.t 5), none, 0, 0⟩,
 ⟨(some 12), .mov (.t 0), none, 0, 0⟩,
 ⟨(some 13), .len (.t 12), none, 0, 0⟩,
 ⟨(some 14), .bin .lss (.t 11) (.t 13), none, 0, 0⟩] false)
 (.cond (.t 14)
 .skip
 (.exit 0)))
 (.seq
 (.block 1
 (.seq
 (.region [⟨(some 17), .mov (.t 0), none, 0, 0⟩,
 ⟨(some 18), .mov (.t 5), none, 0, 0⟩,
 ⟨(some 19), .indexAddr 11 (.t 17) (.t 18), none, 3, 0⟩,
 ⟨(some 20), .load 11 true (.t 19), none, 7, 0⟩,
 ⟨(some 21), .mov (.t 1), none, 0, 0⟩,
 ⟨(some 22), .mov (.t 5), none, 0, 0⟩,
 ⟨(some 23), .indexAddr 11 (.t 21) (.t 22), none, 48, 0⟩,
 ⟨(some 24), .load 11 true (.t 23), none, 112, 0⟩,
 ⟨(some 25), .callF 38 [(.t 20), (.t 24)], none, 255, 0⟩,
 ⟨(some 26), .un .not (.t 25), none, 511, 0⟩] true)
 (.cond (.t 26)
 (.seq
 (.region [⟨(some 4), .mov (.c (.d (.sc (.bool false)))), none, 0, 0⟩] false)
 .ret)
 .skip)))
 (.region [⟨(some 15), .mov (.t 5), none, 0, 0⟩,
 ⟨(some 16), .bin .add (.t 15) (.c (.d (.sc (.int .i64 1)))), none, 0, 0⟩,
 ⟨(some 5), .mov (.t 16), none, 0, 0⟩] false))))))
 (.seq
 (.region [⟨(some 4), .mov (.c (.d (.sc (.bool true)))), none, 0, 0⟩] false)
 .ret)))), false⟩
/-- wreckage/wreckagelaw43.alive -/
def t15 : AFn := ⟨0, 55, [.t 0],
 (.seq
 (.region [⟨(some 0), .mov (.c (.d (.sc (.bool false)))), none, 0, 0⟩] false)
 (.seq
 (.region [⟨(some 10), .call 39 [], none, 0, 0⟩,
 ⟨(some 9), .mov (.t 10), none, 0, 0⟩,
 ⟨(some 11), .extract (.t 9) 0, none, 0, 0⟩,
 ⟨(some 12), .extract (.t 9) 1, none, 0, 0⟩,
 ⟨(some 1), .alloc [(.d (.sc (.int .u8 0))), (.d (.sc (.int .i64 0))), (.d (.sc (.int .i64 0))), (.own [] .full)], none, 0, 0⟩,
 ⟨(some 2), .alloc [(.d (.sc (.int .u8 0))), (.d (.sc (.int .i64 0))), (.d (.sc (.int .i64 0))), (.own [] .full)], none, 0, 0⟩,
 ⟨none, .store 4 (.t 1) (.t 11), none, 0, 0⟩,
 ⟨none, .store 4 (.t 2) (.t 12), none, 0, 0⟩] false)
 (.seq
 (.region [⟨(some 14), .load 4 true (.t 1), none, 0, 0⟩,
 ⟨(some 15), .load 4 true (.t 2), none, 0, 0⟩,
 ⟨(some 16), .call 10 [(.t 14), (.t 15)], none, 0, 0⟩,
 ⟨(some 13), .mov (.t 16), none, 0, 0⟩,
 ⟨(some 17), .extract (.t 13) 0, none, 0, 0⟩,
 ⟨(some 18), .extract (.t 13) 1, none, 0, 0⟩,
 ⟨(some 3), .mov (.t 17), none, 0, 0⟩,
 ⟨(some 4), .mov (.t 18), none, 0, 0⟩] false)
 (.seq
 (.region [⟨(some 20), .load 4 true (.t 2), none, 0, 0⟩,
 ⟨(some 21), .load 4 true (.t 1), none, 0, 0⟩,
 ⟨(some 22), .call 10 [(.t 20), (.t 21)], none, 0, 0⟩,
 ⟨(some 19), .mov (.t 22), none, 0, 0⟩,
 ⟨(some 23), .extract (.t 19) 0, none, 0, 0⟩,
 ⟨(some 24), .extract (.t 19) 1, none, 0, 0⟩,
 ⟨(some 5), .mov (.t 23), none, 0, 0⟩,
 ⟨(some 6), .mov (.t 24), none, 0, 0⟩] false)
 (.seq
 (.region [⟨(some 25), .build [(.d (.sc (.int .u8 0))), (.d (.sc (.int .i64 0))), (.own [] .full), (.own [] .full), (.own [] .full)] [(0, 1, (.c (.d (.sc (.int .u8 2))))), (1, 1, (.c (.d (.sc (.int .i64 2)))))], none, 0, 0⟩,
 ⟨(some 26), .build [(.d (.sc (.int .u8 0))), (.d (.sc (.int .i64 0))), (.d (.sc (.int .i64 0))), (.d (.sc (.int .u8 0))), (.d (.sc (.int .i64 0))), (.d (.sc (.int .i64 0))), (.d (.sc (.int .u8 0))), (.d (.sc (.int .i64 0))), (.own [] .full), (.own [] .full), (.own [] .full)] [(0, 1, (.c (.d (.sc (.int .u8 2))))), (6, 5, (.t 25))], none, 0, 0⟩,
 ⟨(some 27), .call 40 [(.c (.d (.sc (.int .i64 5))))], none, 0, 0⟩,
 ⟨(some 28), .buildSlice 4 1 [(.sc (.int .i64 0)), (.sc (.int .i64 0)), (.sc (.int .u64 0)), (.sl [])] [(0, (.t 27))], none, 0, 0⟩,
 ⟨(some 29), .build [(.d (.sc (.int .u8 0))), (.d (.sc (.int .i64 0))), (.own [] .full), (.own [] .full), (.own [] .full)] [(2, 1, (.t 28))], none, 0, 0⟩,
 ⟨(some 30), .build [(.d (.sc (.int .u8 0))), (.d (.sc (.int .i64 0))), (.d (.sc (.int .i64 0))), (.d (.sc (.int .u8 0))), (.d (.sc (.int .i64 0))), (.d (.sc (.int .i64 0))), (.d (.sc (.int .u8 0))), (.d (.sc (.int .i64 0))), (.own [] .full), (.own [] .full), (.own [] .full)] [(0, 1, (.c (.d (.sc (.int .u8 3))))), (2, 1, (.c (.d (.sc (.int .i64 1))))), (6, 5, (.t 29))], none, 0, 0⟩,
 ⟨(some 31), .build [(.d (.sc (.int .u8 0))), (.d (.sc (.int .i64 0))), (.own [] .full), (.own [] .full), (.own [] .full)] [(0, 1, (.c (.d (.sc (.int .u8 3)))))], none, 0, 0⟩,
 ⟨(some 32), .build [(.d (.sc (.int .u8 0))), (.d (.sc (.int .i64 0))), (.d (.sc (.int .i64 0))), (.d (.sc (.int .u8 0))), (.d (.sc (.int .i64 0))), (.d (.sc (.int .i64 0))), (.d (.sc (.int .u8 0))), (.d (.sc (.int .i64 0))), (.own [] .full), (.own [] .full), (.own [] .full)] [(0, 1, (.c (.d (.sc (.int .u8 7))))), (6, 5, (.t 31))], none, 0, 0⟩,
 ⟨(some 33), .buildSlice 11 3 [(.sc (.int .u8 0)), (.sc (.int .i64 0)), (.sc (.int .i64 0)), (.sc (.int .u8 0)), (.sc (.int .i64 0)), (.sc (.int .i64 0)), (.sc (.int .u8 0)), (.sc (.int .i64 0)), (.sl []), (.sl []), (.sl [])] [(0, (.t 26)), (1, (.t 30)), (2, (.t 32))], none, 0, 0⟩,
 ⟨(some 7), .mov (.t 33), none, 0, 0⟩] false)
 (.seq
 (.region [⟨(some 34), .build [(.d (.sc (.int .u8 0))), (.d (.sc (.int .i64 0))), (.own [] .full), (.own [] .full), (.own [] .full)] [(0, 1, (.c (.d (.sc (.int .u8 1)))))], none, 0, 0⟩,
 ⟨(some 35), .build [(.d (.sc (.int .u8 0))), (.d (.sc (.int .i64 0))), (.d (.sc (.int .i64 0))), (.d (.sc (.int .u8 0))), (.d (.sc (.int .i64 0))), (.d (.sc (.int .i64 0))), (.d (.sc (.int .u8 0))), (.d (.sc (.int .i64 0))), (.own [] .full), (.own [] .full), (.own [] .full)] [(0, 1, (.c (.d (.sc (.int .u8 2))))), (6, 5, (.t 34))], none, 0, 0⟩,
 ⟨(some 36), .build [(.d (.sc (.int .u8 0))), (.d (.sc (.int .i64 0))), (.d (.sc (.int .i64 0))), (.d (.sc (.int .u8 0))), (.d (.sc (.int .i64 0))), (.d (.sc (.int .i64 0))), (.d (.sc (.int .u8 0))), (.d (.sc (.int .i64 0))), (.own [] .full), (.own [] .full), (.own [] .full)] [(0, 1, (.c (.d (.sc (.int .u8 3))))), (2, 1, (.c (.d (.sc (.int .i64 1)))))], none, 0, 0⟩,
 ⟨(some 37), .build [(.d (.sc (.int .u8 0))), (.d (.sc (.int .i64 0))), (.d (.sc (.int .i64 0))), (.d (.sc (.int .u8 0))), (.d (.sc (.int .i64 0))), (.d (.sc (.int .i64 0))), (.d (.sc (.int .u8 0))), (.d (.sc (.int .i64 0))), (.own [] .full), (.own [] .full), (.own [] .full)] [(0, 1, (.c (.d (.sc (.int .u8 6))))), (1, 1, (.c (.d (.sc (.int .i64 1)))))], none, 0, 0⟩,
 ⟨(some 38), .buildSlice 11 3 [(.sc (.int .u8 0)), (.sc (.int .i64 0)), (.sc (.int .i64 0)), (.sc (.int .u8 0)), (.sc (.int .i64 0)), (.sc (.int .i64 0)), (.sc (.int .u8 0)), (.sc (.int .i64 0)), (.sl []), (.sl []), (.sl [])] [(0, (.t 35)), (1, (.t 36)), (2, (.t 37))], none, 0, 0⟩,
 ⟨(some 8), .mov (.t 38), none, 0, 0⟩] false)
 (.seq
 (.region [⟨(some 39), .mov (.t 4), none, 0, 0⟩,
 ⟨(some 40), .bin .eql (.t 39) (.c (.d (.sc (.int .i64 0)))), none, 0, 0⟩,
 ⟨(some 41), .mov (.t 40), none, 0, 0⟩,
 ⟨(some 42), .mov (.t 3), (some (41, true)), 0, 0⟩,
 ⟨(some 43), .mov (.t 7), (some (41, true)), 0, 0⟩,
 ⟨(some 44), .callF 14 [(.t 42), (.t 43)], (some (41, true)), 0, 0⟩,
 ⟨(some 45), .pick (.t 41) (.t 44) (.c (.d (.sc (.bool false)))), none, 0, 0⟩,
 ⟨(some 46), .mov (.t 45), none, 0, 0⟩,
 ⟨(some 47), .mov (.t 6), (some (46, true)), 0, 0⟩,
 ⟨(some 48), .bin .eql (.t 47) (.c (.d (.sc (.int .i64 0)))), (some (46, true)), 0, 0⟩,
 ⟨(some 49), .pick (.t 46) (.t 48) (.c (.d (.sc (.bool false)))), none, 0, 0⟩,
 ⟨(some 50), .mov (.t 49), none, 0, 0⟩,
 ⟨(some 51), .mov (.t 5), (some (50, true)), 0, 0⟩,
 ⟨(some 52), .mov (.t 8), (some (50, true)), 0, 0⟩,
 ⟨(some 53), .callF 14 [(.t 51), (.t 52)], (some (50, true)), 0, 0⟩,
 ⟨(some 54), .pick (.t 50) (.t 53) (.c (.d (.sc (.bool false)))), none, 0, 0⟩,
 ⟨(some 0), .mov (.t 54), none, 0, 0⟩] false)
 .ret))))))), false⟩
/-- wreckage/differ.Apply -/
def t18 : AFn := ⟨2, 35, [.cell 4 4 true, .t 5],
 (.seq
 (.region [⟨(some 2), .box (.t 0), none, 0, 0⟩,
 ⟨(some 4), .alloc [(.d (.sc (.int .u8 0))), (.d (.sc (.int .i64 0))), (.d (.sc (.int .i64 0))), (.own [] .full)], none, 0, 0⟩,
 ⟨(some 5), .mov (.c (.d (.sc (.int .i64 0)))), none, 0, 0⟩] false)
 (.seq
 (.seq
 (.region [⟨(some 10), .load 4 true (.t 2), none, 0, 0⟩,
 ⟨(some 11), .buildSlice 4 1 [(.sc (.int .u8 0)), (.sc (.int .i64 0)), (.sc (.int .i64 0)), (.sl [])] [(0, (.t 10))], none, 0, 2⟩,
 ⟨(some 12), .callF 31 [(.t 11)], none, 0, 0⟩,
 ⟨(some 13), .un .not (.t 12), none, 0, 0⟩] false)
 (.cond (.t 13)
 (.seq
 (.region [⟨(some 14), .build [(.d (.sc (.int .u8 0))), (.d (.sc (.int .i64 0))), (.d (.sc (.int .i64 0))), (.own [] .full)] [], none, 0, 0⟩,
 ⟨none, .store 4 (.t 4) (.t 14), none, 0, 0⟩,
 ⟨(some 5), .mov (.c (.d (.sc (.int .i64 4)))), none, 0, 0⟩] false)
 .ret)
 .skip))
 (.seq
 (.seq
 (.region [⟨(some 15), .mov (.t 1), none, 0, 0⟩,
 ⟨(some 16), .callF 41 [(.t 15)], none, 0, 0⟩,
 ⟨(some 6), .mov (.t 16), none, 0, 0⟩] false)
 (.seq
 (.region [⟨(some 17), .mov (.t 6), none, 0, 0⟩,
 ⟨(some 18), .bin .neq (.t 17) (.c (.d (.sc (.int .i64 0)))), none, 0, 0⟩] false)
 (.cond (.t 18)
 (.seq
 (.region [⟨(some 19), .build [(.d (.sc (.int .u8 0))), (.d (.sc (.int .i64 0))), (.d (.sc (.int .i64 0))), (.own [] .full)] [], none, 0, 0⟩,
 ⟨(some 20), .mov (.t 6), none, 0, 0⟩,
 ⟨none, .store 4 (.t 4) (.t 19), none, 0, 0⟩,
 ⟨(some 5), .mov (.t 20), none, 0, 0⟩] false)
 .ret)
 .skip)))
 (.seq
 (.region [⟨(some 21), .load 4 true (.t 2), none, 0, 0⟩,
 ⟨(some 22), .call 42 [(.t 21)], none, 0, 327684⟩,
 ⟨(some 7), .alloc [(.d (.sc (.int .u8 0))), (.d (.sc (.int .i64 0))), (.d (.sc (.int .i64 0))), (.own [] .full)], none, 0, 0⟩,
 ⟨none, .store 4 (.t 7) (.t 22), none, 0, 0⟩] false)
 (.seq
 (.seq
 (.region [⟨(some 23), .mov (.t 1), none, 0, 0⟩,
 ⟨(some 24), .len (.t 23), none, 0, 0⟩,
 ⟨(some 25), .mov (.c (.d (.sc (.int .i64 0)))), none, 0, 0⟩] false)
 (.block 0
 (.loop
 (.seq
 (.region [⟨(some 26), .bin .lss (.t 25) (.t 24), none, 0, 0⟩] false)
 (.seq
 (.cond (.t 26)
 .skip
 (.exit 0))
 (.seq
 (.block 1
 (.seq
 (.region [⟨(some 27), .indexAddr 11 (.t 23) (.t 25), none, 0, 0⟩,
 ⟨(some 28), .load 11 true (.t 27), none, 0, 0⟩,
 ⟨(some 9), .alloc [(.d (.sc (.int .u8 0))), (.d (.sc (.int .i64 0))), (.d (.sc (.int .i64 0))), (.d (.sc (.int .u8 0))), (.d (.sc (.int .i64 0))), (.d (.sc (.int .i64 0))), (.d (.sc (.int .u8 0))), (.d (.sc (.int .i64 0))), (.own [] .full), (.own [] .full), (.own [] .full)], none, 0, 0⟩,
 ⟨none, .store 11 (.t 9) (.t 28), none, 0, 0⟩] false)
 (.seq
 (.region [⟨(some 29), .load 11 true (.t 9), none, 0, 0⟩,
 ⟨(some 30), .callF 43 [(.t 7), (.t 29)], none, 0, 0⟩,
 ⟨(some 31), .un .not (.t 30), none, 0, 0⟩] false)
 (.cond (.t 31)
 (.seq
 (.region [⟨(some 32), .build [(.d (.sc (.int .u8 0))), (.d (.sc (.int .i64 0))), (.d (.sc (.int .i64 0))), (.own [] .full)] [], none, 0, 0⟩,
 ⟨none, .store 4 (.t 4) (.t 32), none, 0, 0⟩,
 ⟨(some 5), .mov (.c (.d (.sc (.int .i64 2)))), none, 0, 0⟩] false)
 .ret)
 .skip))))
 (.region [⟨(some 33), .bin .add (.t 25) (.c (.d (.sc (.int .i64 1)))), none, 0, 0⟩,
 ⟨(some 25), .mov (.t 33), none, 0, 0⟩] false)))))))
 (.seq
 (.region [⟨(some 34), .load 4 true (.t 7), none, 0, 0⟩,
 ⟨none, .store 4 (.t 4) (.t 34), none, 0, 0⟩,
 ⟨(some 5), .mov (.c (.d (.sc (.int .i64 0)))), none, 0, 0⟩] false)
 .ret)))))), false⟩
/-- wreckage/wreckageref38.SameFrame -/
def t20 : AFn := ⟨2, 31, [.t 4],
 (.seq
 (.region [⟨(some 2), .box (.t 0), none, 0, 0⟩,
 ⟨(some 3), .box (.t 1), none, 0, 0⟩,
 ⟨(some 4), .mov (.c (.d (.sc (.bool false)))), none, 0, 0⟩] false)
 (.seq
 (.region [⟨(some 5), .fieldAddr 0 (.t 2), none, 0, 0⟩,
 ⟨(some 6), .load 1 false (.t 5), none, 0, 0⟩,
 ⟨(some 7), .fieldAddr 0 (.t 3), none, 0, 0⟩,
 ⟨(some 8), .load 1 false (.t 7), none, 0, 0⟩,
 ⟨(some 9), .bin .eql (.t 6) (.t 8), none, 0, 0⟩,
 ⟨(some 10), .mov (.t 9), none, 0, 0⟩,
 ⟨(some 11), .fieldAddr 1 (.t 2), (some (10, true)), 0, 0⟩,
 ⟨(some 12), .load 1 false (.t 11), (some (10, true)), 0, 0⟩,
 ⟨(some 13), .fieldAddr 1 (.t 3), (some (10, true)), 0, 0⟩,
 ⟨(some 14), .load 1 false (.t 13), (some (10, true)), 0, 0⟩,
 ⟨(some 15), .bin .eql (.t 12) (.t 14), (some (10, true)), 0, 0⟩,
 ⟨(some 16), .pick (.t 10) (.t 15) (.c (.d (.sc (.bool false)))), none, 0, 0⟩,
 ⟨(some 17), .mov (.t 16), none, 0, 0⟩,
 ⟨(some 18), .fieldAddr 2 (.t 2), (some (17, true)), 0, 0⟩,
 ⟨(some 19), .load 1 false (.t 18), (some (17, true)), 0, 0⟩,
 ⟨(some 20), .fieldAddr 2 (.t 3), (some (17, true)), 0, 0⟩,
 ⟨(some 21), .load 1 false (.t 20), (some (17, true)), 0, 0⟩,
 ⟨(some 22), .bin .eql (.t 19) (.t 21), (some (17, true)), 0, 0⟩,
 ⟨(some 23), .pick (.t 17) (.t 22) (.c (.d (.sc (.bool false)))), none, 0, 0⟩,
 ⟨(some 24), .mov (.t 23), none, 0, 0⟩,
 ⟨(some 25), .fieldAddr 3 (.t 2), (some (24, true)), 0, 0⟩,
 ⟨(some 26), .load 1 false (.t 25), (some (24, true)), 0, 0⟩,
 ⟨(some 27), .fieldAddr 3 (.t 3), (some (24, true)), 0, 0⟩,
 ⟨(some 28), .load 1 false (.t 27), (some (24, true)), 0, 0⟩,
 ⟨(some 29), .callF 44 [(.t 26), (.t 28)], (some (24, true)), 0, 0⟩,
 ⟨(some 30), .pick (.t 24) (.t 29) (.c (.d (.sc (.bool false)))), none, 0, 0⟩,
 ⟨(some 4), .mov (.t 30), none, 0, 0⟩] false)
 .ret)), false⟩
/-- wreckage/differ.Check -/
def t21 : AFn := ⟨1, 101, [.t 2],
 (.seq
 (.region [⟨(some 1), .box (.t 0), none, 0, 0⟩,
 ⟨(some 2), .mov (.c (.d (.sc (.int .i64 0)))), none, 0, 0⟩] false)
 (.seq
 (.region [⟨(some 5), .fieldAddr 6 (.t 1), none, 0, 0⟩,
 ⟨(some 6), .load 5 true (.t 5), none, 0, 0⟩,
 ⟨(some 3), .alloc [(.d (.sc (.int .u8 0))), (.d (.sc (.int .i64 0))), (.own [] .full), (.own [] .full), (.own [] .full)], none, 0, 0⟩,
 ⟨none, .store 5 (.t 3) (.t 6), none, 0, 0⟩] false)
 (.seq
 (.seq
 (.region [⟨(some 7), .load 5 true (.t 3), none, 0, 0⟩,
 ⟨(some 8), .callF 45 [(.t 7)], none, 0, 0⟩,
 ⟨(some 9), .un .not (.t 8), none, 0, 0⟩,
 ⟨(some 10), .mov (.t 9), none, 0, 0⟩,
 ⟨(some 11), .fieldAddr 1 (.t 1), (some (10, false)), 0, 0⟩,
 ⟨(some 12), .load 1 false (.t 11), (some (10, false)), 0, 0⟩,
 ⟨(some 13), .bin .lss (.t 12) (.c (.d (.sc (.int .i64 0)))), (some (10, false)), 0, 0⟩,
 ⟨(some 14), .pick (.t 10) (.c (.d (.sc (.bool true)))) (.t 13), none, 0, 0⟩,
 ⟨(some 15), .mov (.t 14), none, 0, 0⟩,
 ⟨(some 16), .fieldAddr 1 (.t 1), (some (15, false)), 0, 0⟩,
 ⟨(some 17), .load 1 false (.t 16), (some (15, false)), 0, 0⟩,
 ⟨(some 18), .bin .geq (.t 17) (.c (.d (.sc (.int .i64 16)))), (some (15, false)), 0, 0⟩,
 ⟨(some 19), .pick (.t 15) (.c (.d (.sc (.bool true)))) (.t 18), none, 0, 0⟩,
 ⟨(some 20), .mov (.t 19), none, 0, 0⟩,
 ⟨(some 21), .fieldAddr 2 (.t 1), (some (20, false)), 0, 0⟩,
 ⟨(some 22), .load 1 false (.t 21), (some (20, false)), 0, 0⟩,
 ⟨(some 23), .bin .lss (.t 22) (.c (.d (.sc (.int .i64 0)))), (some (20, false)), 0, 0⟩,
 ⟨(some 24), .pick (.t 20) (.c (.d (.sc (.bool true)))) (.t 23), none, 0, 0⟩,
 ⟨(some 25), .mov (.t 24), none, 0, 0⟩,
 ⟨(some 26), .fieldAddr 2 (.t 1), (some (25, false)), 0, 0⟩,
 ⟨(some 27), .load 1 false (.t 26), (some (25, false)), 0, 0⟩,
 ⟨(some 28), .bin .gtr (.t 27) (.c (.d (.sc (.int .i64 170)))), (some (25, false)), 0, 0⟩,
 ⟨(some 29), .pick (.t 25) (.c (.d (.sc (.bool true)))) (.t 28), none, 0, 0⟩] false)
 (.cond (.t 29)
 (.seq
 (.region [⟨(some 2), .mov (.c (.d (.sc (.int .i64 8)))), none, 0, 0⟩] false)
 .ret)
 .skip))
 (.seq
 (.region [⟨(some 30), .load 11 true (.t 1), none, 0, 0⟩,
 ⟨(some 4), .alloc [(.d (.sc (.int .u8 0))), (.d (.sc (.int .i64 0))), (.d (.sc (.int .i64 0))), (.d (.sc (.int .u8 0))), (.d (.sc (.int .i64 0))), (.d (.sc (.int .i64 0))), (.d (.sc (.int .u8 0))), (.d (.sc (.int .i64 0))), (.own [] .full), (.own [] .full), (.own [] .full)], none, 0, 0⟩,
 ⟨none, .store 11 (.t 4) (.t 30), none, 0, 0⟩] false)
 (.seq
 (.region [⟨(some 31), .fieldAddr 0 (.t 4), none, 0, 0⟩,
 ⟨none, .store 1 (.t 31) (.c (.d (.sc (.int .u8 0)))), none, 0, 0⟩,
 ⟨(some 32), .fieldAddr 1 (.t 4), none, 0, 0⟩,
 ⟨none, .store 1 (.t 32) (.c (.d (.sc (.int .i64 0)))), none, 0, 0⟩] false)
 (.seq
 (.seq
 (.region [⟨(some 33), .fieldAddr 0 (.t 1), none, 0, 0⟩,
 ⟨(some 34), .load 1 false (.t 33), none, 0, 0⟩] false)
 (.block 0
 (.seq
 (.region [⟨(some 36), .bin .eql (.t 34) (.c (.d (.sc (.int .u8 1)))), none, 0, 0⟩,
 ⟨(some 35), .mov (.t 36), none, 0, 0⟩] false)
 (.cond (.t 35)
 (.seq
 (.region [⟨(some 37), .fieldAddr 1 (.t 1), none, 0, 0⟩,
 ⟨(some 38), .load 1 false (.t 37), none, 0, 0⟩,
 ⟨(some 39), .fieldAddr 1 (.t 4), none, 0, 0⟩,
 ⟨none, .store 1 (.t 39) (.t 38), none, 0, 0⟩] false)
 (.region [⟨(some 40), .fieldAddr 3 (.t 4), none, 0, 0⟩,
 ⟨none, .store 1 (.t 40) (.c (.d (.sc (.int .u8 0)))), none, 0, 0⟩,
 ⟨(some 41), .fieldAddr 4 (.t 4), none, 0, 0⟩,
 ⟨none, .store 1 (.t 41) (.c (.d (.sc (.int .i64 0)))), none, 0, 0⟩,
 ⟨(some 42), .fieldAddr 5 (.t 4), none, 0, 0⟩,
 ⟨none, .store 1 (.t 42) (.c (.d (.sc (.int .i64 0)))), none, 0, 0⟩] false))
 (.seq
 (.region [⟨(some 44), .bin .eql (.t 34) (.c (.d (.sc (.int .u8 2)))), none, 0, 0⟩,
 ⟨(some 43), .mov (.t 44), none, 0, 0⟩] false)
 (.cond (.t 43)
 (.region [⟨(some 45), .fieldAddr 6 (.t 4), none, 0, 0⟩,
 ⟨(some 46), .fieldAddr 0 (.t 45), none, 0, 0⟩,
 ⟨none, .store 1 (.t 46) (.c (.d (.sc (.int .u8 0)))), none, 0, 0⟩,
 ⟨(some 47), .fieldAddr 6 (.t 4), none, 0, 0⟩,
 ⟨(some 48), .fieldAddr 1 (.t 47), none, 0, 0⟩,
 ⟨none, .store 1 (.t 48) (.c (.d (.sc (.int .i64 0)))), none, 0, 0⟩] false)
 (.seq
 (.region [⟨(some 50), .bin .eql (.t 34) (.c (.d (.sc (.int .u8 3)))), none, 0, 0⟩,
 ⟨(some 49), .mov (.t 50), none, 0, 0⟩] false)
 (.cond (.t 49)
 (.region [⟨(some 51), .fieldAddr 2 (.t 4), none, 0, 0⟩,
 ⟨none, .store 1 (.t 51) (.c (.d (.sc (.int .i64 0)))), none, 0, 0⟩,
 ⟨(some 52), .fieldAddr 6 (.t 4), none, 0, 0⟩,
 ⟨(some 53), .fieldAddr 2 (.t 52), none, 0, 0⟩,
 ⟨none, .store 1 (.t 53) (.c (.own [] .full)), none, 0, 0⟩] false)
 (.seq
 (.region [⟨(some 55), .bin .eql (.t 34) (.c (.d (.sc (.int .u8 4)))), none, 0, 0⟩,
 ⟨(some 54), .mov (.t 55), none, 0, 0⟩] false)
 (.cond (.t 54)
 (.region [⟨(some 56), .fieldAddr 6 (.t 4), none, 0, 0⟩,
 ⟨(some 57), .fieldAddr 3 (.t 56), none, 0, 0⟩,
 ⟨none, .store 1 (.t 57) (.c (.own [] .full)), none, 0, 0⟩] false)
 (.seq
 (.region [⟨(some 59), .bin .eql (.t 34) (.c (.d (.sc (.int .u8 5)))), none, 0, 0⟩,
 ⟨(some 58), .mov (.t 59), none, 0, 0⟩] false)
 (.cond (.t 58)
 (.region [⟨(some 60), .fieldAddr 6 (.t 4), none, 0, 0⟩,
 ⟨(some 61), .fieldAddr 4 (.t 60), none, 0, 0⟩,
 ⟨none, .store 1 (.t 61) (.c (.own [] .full)), none, 0, 0⟩] false)
 (.seq
 (.region [⟨(some 63), .bin .eql (.t 34) (.c (.d (.sc (.int .u8 6)))), none, 0, 0⟩,
 ⟨(some 62), .mov (.t 63), none, 0, 0⟩] false)
 (.cond (.t 62)
 .skip
 (.seq
 (.region [⟨(some 65), .bin .eql (.t 34) (.c (.d (.sc (.int .u8 7)))), none, 0, 0⟩,
 ⟨(some 64), .mov (.t 65), none, 0, 0⟩] false)
 (.cond (.t 64)
 (.region [⟨(some 66), .fieldAddr 1 (.t 1), none, 0, 0⟩,
 ⟨(some 67), .load 1 false (.t 66), none, 0, 0⟩,
 ⟨(some 68), .build [(.d (.sc (.int .u8 0))), (.d (.sc (.int .i64 0))), (.own [] .full), (.own [] .full), (.own [] .full)] [], none, 0, 0⟩,
 ⟨(some 69), .fieldAddr 1 (.t 4), none, 0, 0⟩,
 ⟨none, .store 1 (.t 69) (.t 67), none, 0, 0⟩,
 ⟨(some 70), .fieldAddr 6 (.t 4), none, 0, 0⟩,
 ⟨none, .store 5 (.t 70) (.t 68), none, 0, 0⟩] false)
 (.seq
 (.region [⟨(some 2), .mov (.c (.d (.sc (.int .i64 8)))), none, 0, 0⟩] false)
 .ret)))))))))))))))))
 (.seq
 (.seq
 (.region [⟨(some 71), .fieldAddr 1 (.t 4), none, 0, 0⟩,
 ⟨(some 72), .load 1 false (.t 71), none, 0, 0⟩,
 ⟨(some 73), .bin .neq (.t 72) (.c (.d (.sc (.int .i64 0)))), none, 0, 0⟩,
 ⟨(some 74), .mov (.t 73), none, 0, 0⟩,
 ⟨(some 75), .fieldAddr 2 (.t 4), (some (74, false)), 0, 0⟩,
 ⟨(some 76), .load 1 false (.t 75), (some (74, false)), 0, 0⟩,
 ⟨(some 77), .bin .neq (.t 76) (.c (.d (.sc (.int .i64 0)))), (some (74, false)), 0, 0⟩,
 ⟨(some 78), .pick (.t 74) (.c (.d (.sc (.bool true)))) (.t 77), none, 0, 0⟩,
 ⟨(some 79), .mov (.t 78), none, 0, 0⟩,
 ⟨(some 80), .fieldAddr 3 (.t 4), (some (79, false)), 0, 0⟩,
 ⟨(some 81), .load 1 false (.t 80), (some (79, false)), 0, 0⟩,
 ⟨(some 82), .bin .neq (.t 81) (.c (.d (.sc (.int .u8 0)))), (some (79, false)), 0, 0⟩,
 ⟨(some 83), .pick (.t 79) (.c (.d (.sc (.bool true)))) (.t 82), none, 0, 0⟩,
 ⟨(some 84), .mov (.t 83), none, 0, 0⟩,
 ⟨(some 85), .fieldAddr 4 (.t 4), (some (84, false)), 0, 0⟩,
 ⟨(some 86), .load 1 false (.t 85), (some (84, false)), 0, 0⟩,
 ⟨(some 87), .bin .neq (.t 86) (.c (.d (.sc (.int .i64 0)))), (some (84, false)), 0, 0⟩,
 ⟨(some 88), .pick (.t 84) (.c (.d (.sc (.bool true)))) (.t 87), none, 0, 0⟩,
 ⟨(some 89), .mov (.t 88), none, 0, 0⟩,
 ⟨(some 90), .fieldAddr 5 (.t 4), (some (89, false)), 0, 0⟩,
 ⟨(some 91), .load 1 false (.t 90), (some (89, false)), 0, 0⟩,
 ⟨(some 92), .bin .neq (.t 91) (.c (.d (.sc (.int .i64 0)))), (some (89, false)), 0, 0⟩,
 ⟨(some 93), .pick (.t 89) (.c (.d (.sc (.bool true)))) (.t 92), none, 0, 0⟩,
 ⟨(some 94), .mov (.t 93), none, 0, 0⟩,
 ⟨(some 95), .fieldAddr 6 (.t 4), (some (94, false)), 0, 0⟩,
 ⟨(some 96), .load 5 true (.t 95), (some (94, false)), 0, 0⟩,
 ⟨(some 97), .build [(.d (.sc (.int .u8 0))), (.d (.sc (.int .i64 0))), (.own [] .full), (.own [] .full), (.own [] .full)] [], (some (94, false)), 0, 0⟩,
 ⟨(some 98), .callF 37 [(.t 96), (.t 97)], (some (94, false)), 0, 0⟩,
 ⟨(some 99), .un .not (.t 98), (some (94, false)), 0, 0⟩,
 ⟨(some 100), .pick (.t 94) (.c (.d (.sc (.bool true)))) (.t 99), none, 0, 0⟩] false)
 (.cond (.t 100)
 (.seq
 (.region [⟨(some 2), .mov (.c (.d (.sc (.int .i64 8)))), none, 0, 0⟩] false)
 .ret)
 .skip))
 (.seq
 (.region [⟨(some 2), .mov (.c (.d (.sc (.int .i64 0)))), none, 0, 0⟩] false)
 .ret)))))))), false⟩
/-- wreckage/differ.Touched -/
def t22 : AFn := ⟨1, 37, [.t 2, .t 3],
 (.seq
 (.region [⟨(some 2), .mov (.c (.own [] .full)), none, 0, 0⟩,
 ⟨(some 3), .mov (.c (.d (.sc (.int .i64 0)))), none, 0, 0⟩] false)
 (.seq
 (.seq
 (.region [⟨(some 8), .mov (.t 0), none, 0, 0⟩,
 ⟨(some 9), .callF 41 [(.t 8)], none, 0, 0⟩,
 ⟨(some 4), .mov (.t 9), none, 0, 0⟩] false)
 (.seq
 (.region [⟨(some 10), .mov (.t 4), none, 0, 0⟩,
 ⟨(some 11), .bin .neq (.t 10) (.c (.d (.sc (.int .i64 0)))), none, 0, 0⟩] false)
 (.cond (.t 11)
 (.seq
 (.region [⟨(some 12), .mov (.t 4), none, 0, 0⟩,
 ⟨(some 2), .mov (.c (.own [] .full)), none, 0, 0⟩,
 ⟨(some 3), .mov (.t 12), none, 0, 0⟩] false)
 .ret)
 .skip)))
 (.seq
 (.region [⟨(some 5), .mov (.c (.own [] .full)), none, 0, 0⟩] false)
 (.seq
 (.seq
 (.region [⟨(some 13), .mov (.t 0), none, 0, 0⟩,
 ⟨(some 14), .len (.t 13), none, 0, 0⟩,
 ⟨(some 15), .mov (.c (.d (.sc (.int .i64 0)))), none, 0, 0⟩] false)
 (.block 0
 (.loop
 (.seq
 (.region [⟨(some 16), .bin .lss (.t 15) (.t 14), none, 0, 0⟩] false)
 (.seq
 (.cond (.t 16)
 .skip
 (.exit 0))
 (.seq
 (.block 1
 (.seq
 (.region [⟨(some 17), .indexAddr 11 (.t 13) (.t 15), none, 0, 0⟩,
 ⟨(some 18), .load 11 true (.t 17), none, 0, 0⟩,
 ⟨(some 7), .alloc [(.d (.sc (.int .u8 0))), (.d (.sc (.int .i64 0))), (.d (.sc (.int .i64 0))), (.d (.sc (.int .u8 0))), (.d (.sc (.int .i64 0))), (.d (.sc (.int .i64 0))), (.d (.sc (.int .u8 0))), (.d (.sc (.int .i64 0))), (.own [] .full), (.own [] .full), (.own [] .full)], none, 0, 0⟩,
 ⟨none, .store 11 (.t 7) (.t 18), none, 0, 0⟩] false)
 (.seq
 (.region [⟨(some 19), .fieldAddr 0 (.t 7), none, 0, 0⟩,
 ⟨(some 20), .load 1 false (.t 19), none, 0, 0⟩,
 ⟨(some 21), .bin .geq (.t 20) (.c (.d (.sc (.int .u8 2)))), none, 0, 0⟩,
 ⟨(some 22), .mov (.t 21), none, 0, 0⟩,
 ⟨(some 23), .fieldAddr 0 (.t 7), (some (22, true)), 0, 0⟩,
 ⟨(some 24), .load 1 false (.t 23), (some (22, true)), 0, 0⟩,
 ⟨(some 25), .bin .leq (.t 24) (.c (.d (.sc (.int .u8 5)))), (some (22, true)), 0, 0⟩,
 ⟨(some 26), .pick (.t 22) (.t 25) (.c (.d (.sc (.bool false)))), none, 0, 0⟩] false)
 (.cond (.t 26)
 (.region [⟨(some 27), .mov (.t 5), none, 0, 0⟩,
 ⟨(some 28), .fieldAddr 1 (.t 7), none, 0, 0⟩,
 ⟨(some 29), .load 1 false (.t 28), none, 0, 0⟩,
 ⟨(some 30), .buildSlice 1 1 [(.sc (.int .i64 0))] [(0, (.t 29))], none, 0, 0⟩,
 ⟨(some 31), .append 1 8 (.t 27) (.t 30), none, 0, 1⟩,
 ⟨(some 5), .mov (.t 31), none, 0, 0⟩] false)
 .skip))))
 (.region [⟨(some 32), .bin .add (.t 15) (.c (.d (.sc (.int .i64 1)))), none, 0, 0⟩,
 ⟨(some 15), .mov (.t 32), none, 0, 0⟩] false)))))))
 (.seq
 (.region [⟨(some 33), .mov (.t 5), none, 0, 0⟩,
 ⟨(some 34), .callF 46 [(.t 33)], none, 0, 0⟩] false)
 (.seq
 (.region [⟨(some 35), .mov (.t 5), none, 0, 0⟩,
 ⟨(some 36), .call 47 [(.t 35)], none, 0, 0⟩,
 ⟨(some 2), .mov (.t 36), none, 0, 0⟩,
 ⟨(some 3), .mov (.c (.d (.sc (.int .i64 0)))), none, 0, 0⟩] false)
 .ret)))))), false⟩
/-- wreckage/wreckageref40.SameRoutine -/
def t23 : AFn := ⟨2, 110, [.t 4],
 (.seq
 (.region [⟨(some 2), .box (.t 0), none, 0, 0⟩,
 ⟨(some 3), .box (.t 1), none, 0, 0⟩,
 ⟨(some 4), .mov (.c (.d (.sc (.bool false)))), none, 0, 0⟩] false)
 (.seq
 (.seq
 (.region [⟨(some 9), .fieldAddr 0 (.t 2), none, 0, 0⟩,
 ⟨(some 10), .load 1 false (.t 9), none, 0, 0⟩,
 ⟨(some 11), .fieldAddr 0 (.t 3), none, 0, 0⟩,
 ⟨(some 12), .load 1 false (.t 11), none, 0, 0⟩,
 ⟨(some 13), .bin .neq (.t 10) (.t 12), none, 0, 0⟩,
 ⟨(some 14), .mov (.t 13), none, 0, 0⟩,
 ⟨(some 15), .fieldAddr 1 (.t 2), (some (14, false)), 0, 0⟩,
 ⟨(some 16), .load 1 false (.t 15), (some (14, false)), 0, 0⟩,
 ⟨(some 17), .fieldAddr 1 (.t 3), (some (14, false)), 0, 0⟩,
 ⟨(some 18), .load 1 false (.t 17), (some (14, false)), 0, 0⟩,
 ⟨(some 19), .bin .neq (.t 16) (.t 18), (some (14, false)), 0, 0⟩,
 ⟨(some 20), .pick (.t 14) (.c (.d (.sc (.bool true)))) (.t 19), none, 0, 0⟩,
 ⟨(some 21), .mov (.t 20), none, 0, 0⟩,
 ⟨(some 22), .fieldAddr 2 (.t 2), (some (21, false)), 0, 0⟩,
 ⟨(some 23), .load 1 false (.t 22), (some (21, false)), 0, 0⟩,
 ⟨(some 24), .len (.t 23), (some (21, false)), 0, 0⟩,
 ⟨(some 25), .fieldAddr 2 (.t 3), (some (21, false)), 0, 0⟩,
 ⟨(some 26), .load 1 false (.t 25), (some (21, false)), 0, 0⟩,
 ⟨(some 27), .len (.t 26), (some (21, false)), 0, 0⟩,
 ⟨(some 28), .bin .neq (.t 24) (.t 27), (some (21, false)), 0, 0⟩,
 ⟨(some 29), .pick (.t 21) (.c (.d (.sc (.bool true)))) (.t 28), none, 0, 0⟩,
 ⟨(some 30), .mov (.t 29), none, 0, 0⟩,
 ⟨(some 31), .fieldAddr 3 (.t 2), (some (30, false)), 0, 0⟩,
 ⟨(some 32), .load 1 false (.t 31), (some (30, false)), 0, 0⟩,
 ⟨(some 33), .len (.t 32), (some (30, false)), 0, 0⟩,
 ⟨(some 34), .fieldAddr 3 (.t 3), (some (30, false)), 0, 0⟩,
 ⟨(some 35), .load 1 false (.t 34), (some (30, false)), 0, 0⟩,
 ⟨(some 36), .len (.t 35), (some (30, false)), 0, 0⟩,
 ⟨(some 37), .bin .neq (.t 33) (.t 36), (some (30, false)), 0, 0⟩,
 ⟨(some 38), .pick (.t 30) (.c (.d (.sc (.bool true)))) (.t 37), none, 0, 0⟩,
 ⟨(some 39), .mov (.t 38), none, 0, 0⟩,
 ⟨(some 40), .fieldAddr 4 (.t 2), (some (39, false)), 0, 0⟩,
 ⟨(some 41), .load 1 false (.t 40), (some (39, false)), 0, 0⟩,
 ⟨(some 42), .fieldAddr 4 (.t 3), (some (39, false)), 0, 0⟩,
 ⟨(some 43), .load 1 false (.t 42), (some (39, false)), 0, 0⟩,
 ⟨(some 44), .callF 48 [(.t 41), (.t 43)], (some (39, false)), 0, 0⟩,
 ⟨(some 45), .un .not (.t 44), (some (39, false)), 0, 0⟩,
 ⟨(some 46), .pick (.t 39) (.c (.d (.sc (.bool true)))) (.t 45), none, 0, 0⟩] false)
 (.cond (.t 46)
 (.seq
 (.region [⟨(some 4), .mov (.c (.d (.sc (.bool false)))), none, 0, 0⟩] false)
 .ret)
 .skip))
 (.seq
 (.seq
 (.region [⟨(some 5), .mov (.c (.d (.sc (.int .i64 0)))), none, 0, 0⟩] false)
 (.block 0
 (.loop
 (.seq
 (.seq
 (.region [⟨(some 47), .mov (.t 5), none, 0, 0⟩,
 ⟨(some 48), .fieldAddr 2 (.t 2), none, 0, 0⟩,
 ⟨(some 49), .load 1 false (.t 48), none, 0, 0⟩,
 ⟨(some 50), .len (.t 49), none, 0, 0⟩,
 ⟨(some 51), .bin .lss (.t 47) (.t 50), none, 0, 0⟩] false)
 (.cond (.t 51)
 .skip
 (.exit 0)))
 (.seq
 (.block 1
 (.seq
 (.region [⟨(some 54), .fieldAddr 2 (.t 2), none, 0, 0⟩,
 ⟨(some 55), .load 1 false (.t 54), none, 1, 0⟩,
 ⟨(some 56), .mov (.t 5), none, 0, 0⟩,
 ⟨(some 57), .indexAddr 4 (.t 55) (.t 56), none, 7, 0⟩,
 ⟨(some 58), .load 4 true (.t 57), none, 15, 0⟩,
 ⟨(some 59), .fieldAddr 2 (.t 3), none, 0, 0⟩,
 ⟨(some 60), .load 1 false (.t 59), none, 32, 0⟩,
 ⟨(some 61), .mov (.t 5), none, 0, 0⟩,
 ⟨(some 62), .indexAddr 4 (.t 60) (.t 61), none, 224, 0⟩,
 ⟨(some 63), .load 4 true (.t 62), none, 480, 0⟩,
 ⟨(some 64), .callF 20 [(.t 58), (.t 63)], none, 1023, 0⟩,
 ⟨(some 65), .un .not (.t 64), none, 2047, 0⟩] true)
 (.cond (.t 65)
 (.seq
 (.region [⟨(some 4), .mov (.c (.d (.sc (.bool false)))), none, 0, 0⟩] false)
 .ret)
 .skip)))
 (.region [⟨(some 52), .mov (.t 5), none, 0, 0⟩,
 ⟨(some 53), .bin .add (.t 52) (.c (.d (.sc (.int .i64 1)))), none, 0, 0⟩,
 ⟨(some 5), .mov (.t 53), none, 0, 0⟩] false))))))
 (.seq
 (.seq
 (.region [⟨(some 6), .mov (.c (.d (.sc (.int .i64 0)))), none, 0, 0⟩] false)
 (.block 2
 (.loop
 (.seq
 (.seq
 (.region [⟨(some 66), .mov (.t 6), none, 0, 0⟩,
 ⟨(some 67), .fieldAddr 3 (.t 2), none, 0, 0⟩,
 ⟨(some 68), .load 1 false (.t 67), none, 0, 0⟩,
 ⟨(some 69), .len (.t 68), none, 0, 0⟩,
 ⟨(some 70), .bin .lss (.t 66) (.t 69), none, 0, 0⟩] false)
 (.cond (.t 70)
 .skip
 (.exit 2)))
 (.seq
 (.block 3
 (.seq
 (.region [⟨(some 73), .fieldAddr 3 (.t 2), none, 0, 0⟩,
 ⟨(some 74), .load 1 false (.t 73), none, 1, 0⟩,
 ⟨(some 75), .mov (.t 6), none, 0, 0⟩,
 ⟨(some 76), .indexAddr 8 (.t 74) (.t 75), none, 7, 0⟩,
 ⟨(some 77), .load 8 true (.t 76), none, 15, 0⟩,
 ⟨(some 78), .fieldAddr 3 (.t 3), none, 0, 0⟩,
 ⟨(some 79), .load 1 false (.t 78), none, 32, 0⟩,
 ⟨(some 80), .mov (.t 6), none, 0, 0⟩,
 ⟨(some 81), .indexAddr 8 (.t 79) (.t 80), none, 224, 0⟩,
 ⟨(some 82), .load 8 true (.t 81), none, 480, 0⟩,
 ⟨(some 7), .alloc [(.d (.sc (.int .i64 0))), (.d (.sc (.int .i64 0))), (.d (.sc (.bool false))), (.d (.sc (.int .u8 0))), (.d (.sc (.int .i64 0))), (.d (.sc (.string ⟨#[]⟩))), (.own [] .full), (.d (.sc (.bool false)))], none, 0, 0⟩,
 ⟨(some 8), .alloc [(.d (.sc (.int .i64 0))), (.d (.sc (.int .i64 0))), (.d (.sc (.bool false))), (.d (.sc (.int .u8 0))), (.d (.sc (.int .i64 0))), (.d (.sc (.string ⟨#[]⟩))), (.own [] .full), (.d (.sc (.bool false)))], none, 0, 0⟩,
 ⟨none, .store 8 (.t 7) (.t 77), none, 3103, 0⟩,
 ⟨none, .store 8 (.t 8) (.t 82), none, 8191, 0⟩] true)
 (.seq
 (.region [⟨(some 83), .fieldAddr 0 (.t 7), none, 0, 0⟩,
 ⟨(some 84), .load 1 false (.t 83), none, 0, 0⟩,
 ⟨(some 85), .fieldAddr 0 (.t 8), none, 0, 0⟩,
 ⟨(some 86), .load 1 false (.t 85), none, 0, 0⟩,
 ⟨(some 87), .bin .neq (.t 84) (.t 86), none, 0, 0⟩,
 ⟨(some 88), .mov (.t 87), none, 0, 0⟩,
 ⟨(some 89), .fieldAddr 1 (.t 7), (some (88, false)), 0, 0⟩,
 ⟨(some 90), .load 1 false (.t 89), (some (88, false)), 0, 0⟩,
 ⟨(some 91), .fieldAddr 1 (.t 8), (some (88, false)), 0, 0⟩,
 ⟨(some 92), .load 1 false (.t 91), (some (88, false)), 0, 0⟩,
 ⟨(some 93), .bin .neq (.t 90) (.t 92), (some (88, false)), 0, 0⟩,
 ⟨(some 94), .pick (.t 88) (.c (.d (.sc (.bool true)))) (.t 93), none, 0, 0⟩,
 ⟨(some 95), .mov (.t 94), none, 0, 0⟩,
 ⟨(some 96), .fieldAddr 2 (.t 7), (some (95, false)), 0, 0⟩,
 ⟨(some 97), .load 1 false (.t 96), (some (95, false)), 0, 0⟩,
 ⟨(some 98), .fieldAddr 2 (.t 8), (some (95, false)), 0, 0⟩,
 ⟨(some 99), .load 1 false (.t 98), (some (95, false)), 0, 0⟩,
 ⟨(some 100), .eqb true (.t 97) (.t 99), (some (95, false)), 0, 0⟩,
 ⟨(some 101), .pick (.t 95) (.c (.d (.sc (.bool true)))) (.t 100), none, 0, 0⟩,
 ⟨(some 102), .mov (.t 101), none, 0, 0⟩,
 ⟨(some 103), .fieldAddr 3 (.t 7), (some (102, false)), 0, 0⟩,
 ⟨(some 104), .load 5 true (.t 103), (some (102, false)), 0, 0⟩,
 ⟨(some 105), .fieldAddr 3 (.t 8), (some (102, false)), 0, 0⟩,
 ⟨(some 106), .load 5 true (.t 105), (some (102, false)), 0, 0⟩,
 ⟨(some 107), .callF 49 [(.t 104), (.t 106)], (some (102, false)), 0, 0⟩,
 ⟨(some 108), .un .not (.t 107), (some (102, false)), 0, 0⟩,
 ⟨(some 109), .pick (.t 102) (.c (.d (.sc (.bool true)))) (.t 108), none, 0, 0⟩] false)
 (.cond (.t 109)
 (.seq
 (.region [⟨(some 4), .mov (.c (.d (.sc (.bool false)))), none, 0, 0⟩] false)
 .ret)
 .skip))))
 (.region [⟨(some 71), .mov (.t 6), none, 0, 0⟩,
 ⟨(some 72), .bin .add (.t 71) (.c (.d (.sc (.int .i64 1)))), none, 0, 0⟩,
 ⟨(some 6), .mov (.t 72), none, 0, 0⟩] false))))))
 (.seq
 (.region [⟨(some 4), .mov (.c (.d (.sc (.bool true)))), none, 0, 0⟩] false)
 .ret))))), false⟩
/-- wreckage/wreckagelaw43.of -/
def t28 : AFn := ⟨1, 5, [.cell 2 4 true],
 (.seq
 (.region [⟨(some 2), .alloc [(.d (.sc (.int .u8 0))), (.d (.sc (.int .i64 0))), (.d (.sc (.int .i64 0))), (.own [] .full)], none, 0, 0⟩] false)
 (.seq
 (.region [⟨(some 3), .mov (.t 0), none, 0, 0⟩,
 ⟨(some 4), .build [(.d (.sc (.int .u8 0))), (.d (.sc (.int .i64 0))), (.d (.sc (.int .i64 0))), (.own [] .full)] [(0, 1, (.c (.d (.sc (.int .u8 3))))), (1, 1, (.c (.d (.sc (.int .i64 (-1)))))), (3, 1, (.t 3))], none, 0, 0⟩,
 ⟨none, .store 4 (.t 2) (.t 4), none, 0, 0⟩] false)
 .ret)), false⟩
/-- wreckage/wreckagelaw43.bad -/
def t29 : AFn := ⟨1, 32, [.t 2],
 (.seq
 (.region [⟨(some 1), .box (.t 0), none, 0, 0⟩,
 ⟨(some 2), .mov (.c (.d (.sc (.bool false)))), none, 0, 0⟩] false)
 (.seq
 (.region [⟨(some 8), .call 28 [(.c (.own [] .full))], none, 0, 0⟩,
 ⟨(some 9), .build [(.d (.sc (.int .u8 0))), (.d (.sc (.int .i64 0))), (.d (.sc (.int .i64 0))), (.d (.sc (.int .u8 0))), (.d (.sc (.int .i64 0))), (.d (.sc (.int .i64 0))), (.d (.sc (.int .u8 0))), (.d (.sc (.int .i64 0))), (.own [] .full), (.own [] .full), (.own [] .full)] [(0, 1, (.c (.d (.sc (.int .u8 1)))))], none, 0, 0⟩,
 ⟨(some 10), .load 11 true (.t 1), none, 0, 0⟩,
 ⟨(some 11), .buildSlice 11 2 [(.sc (.int .u8 0)), (.sc (.int .i64 0)), (.sc (.int .i64 0)), (.sc (.int .u8 0)), (.sc (.int .i64 0)), (.sc (.int .i64 0)), (.sc (.int .u8 0)), (.sc (.int .i64 0)), (.sl []), (.sl []), (.sl [])] [(0, (.t 9)), (1, (.t 10))], none, 6, 0⟩,
 ⟨(some 12), .call 18 [(.t 8), (.t 11)], none, 15, 0⟩,
 ⟨(some 7), .mov (.t 12), none, 31, 0⟩,
 ⟨(some 13), .extract (.t 7) 0, none, 63, 0⟩,
 ⟨(some 14), .extract (.t 7) 1, none, 63, 0⟩,
 ⟨(some 3), .alloc [(.d (.sc (.int .u8 0))), (.d (.sc (.int .i64 0))), (.d (.sc (.int .i64 0))), (.own [] .full)], none, 0, 0⟩,
 ⟨none, .store 4 (.t 3) (.t 13), none, 383, 0⟩,
 ⟨(some 4), .mov (.t 14), none, 1023, 0⟩] true)
 (.seq
 (.region [⟨(some 16), .load 11 true (.t 1), none, 0, 0⟩,
 ⟨(some 17), .buildSlice 11 1 [(.sc (.int .u8 0)), (.sc (.int .i64 0)), (.sc (.int .i64 0)), (.sc (.int .u8 0)), (.sc (.int .i64 0)), (.sc (.int .i64 0)), (.sc (.int .u8 0)), (.sc (.int .i64 0)), (.sl []), (.sl []), (.sl [])] [(0, (.t 16))], none, 0, 0⟩,
 ⟨(some 18), .call 22 [(.t 17)], none, 0, 0⟩,
 ⟨(some 15), .mov (.t 18), none, 0, 0⟩,
 ⟨(some 19), .extract (.t 15) 0, none, 0, 0⟩,
 ⟨(some 20), .extract (.t 15) 1, none, 0, 0⟩,
 ⟨(some 5), .mov (.t 19), none, 0, 0⟩,
 ⟨(some 6), .mov (.t 20), none, 0, 0⟩] false)
 (.seq
 (.region [⟨(some 21), .load 11 true (.t 1), none, 0, 0⟩,
 ⟨(some 22), .callF 21 [(.t 21)], none, 0, 0⟩,
 ⟨(some 23), .bin .eql (.t 22) (.c (.d (.sc (.int .i64 8)))), none, 0, 0⟩,
 ⟨(some 24), .mov (.t 23), none, 0, 0⟩,
 ⟨(some 25), .mov (.t 4), (some (24, true)), 0, 0⟩,
 ⟨(some 26), .bin .eql (.t 25) (.c (.d (.sc (.int .i64 8)))), (some (24, true)), 0, 0⟩,
 ⟨(some 27), .pick (.t 24) (.t 26) (.c (.d (.sc (.bool false)))), none, 0, 0⟩,
 ⟨(some 28), .mov (.t 27), none, 0, 0⟩,
 ⟨(some 29), .mov (.t 6), (some (28, true)), 0, 0⟩,
 ⟨(some 30), .bin .eql (.t 29) (.c (.d (.sc (.int .i64 8)))), (some (28, true)), 0, 0⟩,
 ⟨(some 31), .pick (.t 28) (.t 30) (.c (.d (.sc (.bool false)))), none, 0, 0⟩,
 ⟨(some 2), .mov (.t 31), none, 0, 0⟩] false)
 .ret)))), false⟩
/-- wreckage/wreckagelaw43.not -/
def t30 : AFn := ⟨2, 21, [.t 4],
 (.seq
 (.region [⟨(some 2), .box (.t 0), none, 0, 0⟩,
 ⟨(some 3), .box (.t 1), none, 0, 0⟩,
 ⟨(some 4), .mov (.c (.d (.sc (.bool false)))), none, 0, 0⟩] false)
 (.seq
 (.region [⟨(some 8), .load 4 true (.t 2), none, 0, 0⟩,
 ⟨(some 9), .load 11 true (.t 3), none, 0, 0⟩,
 ⟨(some 10), .buildSlice 11 1 [(.sc (.int .u8 0)), (.sc (.int .i64 0)), (.sc (.int .i64 0)), (.sc (.int .u8 0)), (.sc (.int .i64 0)), (.sc (.int .i64 0)), (.sc (.int .u8 0)), (.sc (.int .i64 0)), (.sl []), (.sl []), (.sl [])] [(0, (.t 9))], none, 0, 0⟩,
 ⟨(some 11), .call 18 [(.t 8), (.t 10)], none, 0, 0⟩,
 ⟨(some 7), .mov (.t 11), none, 0, 0⟩,
 ⟨(some 12), .extract (.t 7) 0, none, 0, 0⟩,
 ⟨(some 13), .extract (.t 7) 1, none, 0, 0⟩,
 ⟨(some 5), .alloc [(.d (.sc (.int .u8 0))), (.d (.sc (.int .i64 0))), (.d (.sc (.int .i64 0))), (.own [] .full)], none, 0, 0⟩,
 ⟨none, .store 4 (.t 5) (.t 12), none, 0, 0⟩,
 ⟨(some 6), .mov (.t 13), none, 0, 0⟩] false)
 (.seq
 (.region [⟨(some 14), .load 11 true (.t 3), none, 0, 0⟩,
 ⟨(some 15), .callF 21 [(.t 14)], none, 0, 0⟩,
 ⟨(some 16), .bin .eql (.t 15) (.c (.d (.sc (.int .i64 0)))), none, 0, 0⟩,
 ⟨(some 17), .mov (.t 16), none, 0, 0⟩,
 ⟨(some 18), .mov (.t 6), (some (17, true)), 0, 0⟩,
 ⟨(some 19), .bin .eql (.t 18) (.c (.d (.sc (.int .i64 2)))), (some (17, true)), 0, 0⟩,
 ⟨(some 20), .pick (.t 17) (.t 19) (.c (.d (.sc (.bool false)))), none, 0, 0⟩,
 ⟨(some 4), .mov (.t 20), none, 0, 0⟩] false)
 .ret))), false⟩
/-- wreckage/differ.whole -/
def t31 : AFn := ⟨1, 21, [.t 2],
 (.seq
 (.region [⟨(some 2), .mov (.c (.d (.sc (.bool false)))), none, 0, 0⟩] false)
 (.seq
 (.seq
 (.region [⟨(some 5), .mov (.t 0), none, 0, 0⟩,
 ⟨(some 6), .len (.t 5), none, 0, 0⟩,
 ⟨(some 7), .mov (.c (.d (.sc (.int .i64 0)))), none, 0, 0⟩] false)
 (.block 0
 (.loop
 (.seq
 (.region [⟨(some 8), .bin .lss (.t 7) (.t 6), none, 0, 0⟩] false)
 (.seq
 (.cond (.t 8)
 .skip
 (.exit 0))
 (.seq
 (.block 1
 (.seq
 (.region [⟨(some 9), .indexAddr 4 (.t 5) (.t 7), none, 0, 0⟩,
 ⟨(some 10), .load 4 true (.t 9), none, 0, 0⟩,
 ⟨(some 4), .alloc [(.d (.sc (.int .u8 0))), (.d (.sc (.int .i64 0))), (.d (.sc (.int .i64 0))), (.own [] .full)], none, 0, 0⟩,
 ⟨none, .store 4 (.t 4) (.t 10), none, 0, 0⟩] false)
 (.seq
 (.region [⟨(some 11), .fieldAddr 3 (.t 4), none, 0, 0⟩,
 ⟨(some 12), .load 1 false (.t 11), none, 0, 0⟩,
 ⟨(some 13), .len (.t 12), none, 0, 0⟩,
 ⟨(some 14), .bin .gtr (.t 13) (.c (.d (.sc (.int .i64 16)))), none, 0, 0⟩,
 ⟨(some 15), .mov (.t 14), none, 0, 0⟩,
 ⟨(some 16), .fieldAddr 3 (.t 4), (some (15, false)), 0, 0⟩,
 ⟨(some 17), .load 1 false (.t 16), (some (15, false)), 0, 0⟩,
 ⟨(some 18), .callF 56 [(.t 17), (.c (.clo 57 []))], (some (15, false)), 0, 0⟩,
 ⟨(some 19), .pick (.t 15) (.c (.d (.sc (.bool true)))) (.t 18), none, 0, 0⟩] false)
 (.cond (.t 19)
 (.seq
 (.region [⟨(some 2), .mov (.c (.d (.sc (.bool false)))), none, 0, 0⟩] false)
 .ret)
 .skip))))
 (.region [⟨(some 20), .bin .add (.t 7) (.c (.d (.sc (.int .i64 1)))), none, 0, 0⟩,
 ⟨(some 7), .mov (.t 20), none, 0, 0⟩] false)))))))
 (.seq
 (.region [⟨(some 2), .mov (.c (.d (.sc (.bool true)))), none, 0, 0⟩] false)
 .ret))), false⟩
/-- wreckage/differ.between -/
def t32 : AFn := ⟨3, 103, [.t 6],
 (.seq
 (.region [⟨(some 3), .box (.t 0), none, 0, 0⟩,
 ⟨(some 4), .box (.t 1), none, 0, 0⟩,
 ⟨(some 5), .box (.t 2), none, 0, 0⟩,
 ⟨(some 6), .mov (.c (.own [] .full)), none, 0, 0⟩] false)
 (.seq
 (.region [⟨(some 7), .alloc [(.own [] .full)], none, 0, 0⟩] false)
 (.seq
 (.region [⟨(some 11), .makeFunc 58 [(.t 7), (.t 3)], none, 0, 0⟩,
 ⟨(some 8), .mov (.t 11), none, 0, 0⟩] false)
 (.seq
 (.seq
 (.region [⟨(some 12), .fieldAddr 0 (.t 4), none, 0, 0⟩,
 ⟨(some 13), .load 1 false (.t 12), none, 0, 0⟩,
 ⟨(some 14), .fieldAddr 0 (.t 5), none, 0, 0⟩,
 ⟨(some 15), .load 1 false (.t 14), none, 0, 0⟩,
 ⟨(some 16), .bin .neq (.t 13) (.t 15), none, 0, 0⟩,
 ⟨(some 17), .mov (.t 16), none, 0, 0⟩,
 ⟨(some 18), .fieldAddr 1 (.t 4), (some (17, false)), 0, 0⟩,
 ⟨(some 19), .load 1 false (.t 18), (some (17, false)), 0, 0⟩,
 ⟨(some 20), .fieldAddr 1 (.t 5), (some (17, false)), 0, 0⟩,
 ⟨(some 21), .load 1 false (.t 20), (some (17, false)), 0, 0⟩,
 ⟨(some 22), .bin .neq (.t 19) (.t 21), (some (17, false)), 0, 0⟩,
 ⟨(some 23), .pick (.t 17) (.c (.d (.sc (.bool true)))) (.t 22), none, 0, 0⟩] false)
 (.cond (.t 23)
 (.region [⟨(some 24), .mov (.t 8), none, 0, 0⟩,
 ⟨(some 25), .fieldAddr 0 (.t 5), none, 0, 0⟩,
 ⟨(some 26), .load 1 false (.t 25), none, 0, 0⟩,
 ⟨(some 27), .fieldAddr 1 (.t 5), none, 0, 0⟩,
 ⟨(some 28), .load 1 false (.t 27), none, 0, 0⟩,
 ⟨(some 29), .build [(.d (.sc (.int .u8 0))), (.d (.sc (.int .i64 0))), (.own [] .full), (.own [] .full), (.own [] .full)] [(0, 1, (.t 26)), (1, 1, (.t 28))], none, 0, 0⟩,
 ⟨(some 30), .callv (.t 24) [(.c (.d (.sc (.int .u8 2)))), (.c (.d (.sc (.int .i64 0)))), (.t 29)], none, 0, 0⟩] false)
 .skip))
 (.seq
 (.region [⟨(some 31), .fieldAddr 2 (.t 4), none, 0, 0⟩,
 ⟨(some 32), .load 1 false (.t 31), none, 1, 0⟩,
 ⟨(some 33), .len (.t 32), none, 3, 0⟩,
 ⟨(some 34), .fieldAddr 2 (.t 5), none, 0, 0⟩,
 ⟨(some 35), .load 1 false (.t 34), none, 8, 0⟩,
 ⟨(some 36), .len (.t 35), none, 24, 0⟩,
 ⟨(some 9), .mov (.t 33), none, 7, 0⟩,
 ⟨(some 10), .mov (.t 36), none, 127, 0⟩] true)
 (.seq
 (.block 0
 (.loop
 (.seq
 (.seq
 (.region [⟨(some 37), .mov (.t 9), none, 0, 0⟩,
 ⟨(some 38), .bin .gtr (.t 37) (.c (.d (.sc (.int .i64 0)))), none, 1, 0⟩,
 ⟨(some 39), .mov (.t 38), none, 3, 0⟩,
 ⟨(some 40), .mov (.t 10), (some (39, true)), 7, 0⟩,
 ⟨(some 41), .bin .gtr (.t 40) (.c (.d (.sc (.int .i64 0)))), (some (39, true)), 15, 0⟩,
 ⟨(some 42), .pick (.t 39) (.t 41) (.c (.d (.sc (.bool false)))), none, 31, 0⟩,
 ⟨(some 43), .mov (.t 42), none, 63, 0⟩,
 ⟨(some 44), .fieldAddr 2 (.t 4), (some (43, true)), 127, 0⟩,
 ⟨(some 45), .load 1 false (.t 44), (some (43, true)), 255, 0⟩,
 ⟨(some 46), .mov (.t 9), (some (43, true)), 127, 0⟩,
 ⟨(some 47), .bin .sub (.t 46) (.c (.d (.sc (.int .i64 1)))), (some (43, true)), 639, 0⟩,
 ⟨(some 48), .indexAddr 4 (.t 45) (.t 47), (some (43, true)), 2047, 0⟩,
 ⟨(some 49), .load 4 true (.t 48), (some (43, true)), 4095, 0⟩,
 ⟨(some 50), .fieldAddr 2 (.t 5), (some (43, true)), 127, 0⟩,
 ⟨(some 51), .load 1 false (.t 50), (some (43, true)), 8319, 0⟩,
 ⟨(some 52), .mov (.t 10), (some (43, true)), 127, 0⟩,
 ⟨(some 53), .bin .sub (.t 52) (.c (.d (.sc (.int .i64 1)))), (some (43, true)), 32895, 0⟩,
 ⟨(some 54), .indexAddr 4 (.t 51) (.t 53), (some (43, true)), 123007, 0⟩,
 ⟨(some 55), .load 4 true (.t 54), (some (43, true)), 254079, 0⟩,
 ⟨(some 56), .callF 59 [(.t 49), (.t 55)], (some (43, true)), 524287, 0⟩,
 ⟨(some 57), .pick (.t 43) (.t 56) (.c (.d (.sc (.bool false)))), none, 1048575, 0⟩] true)
 (.cond (.t 57)
 .skip
 (.exit 0)))
 (.block 1
 (.region [⟨(some 58), .mov (.t 9), none, 0, 0⟩,
 ⟨(some 59), .bin .sub (.t 58) (.c (.d (.sc (.int .i64 1)))), none, 0, 0⟩,
 ⟨(some 60), .mov (.t 10), none, 0, 0⟩,
 ⟨(some 61), .bin .sub (.t 60) (.c (.d (.sc (.int .i64 1)))), none, 0, 0⟩,
 ⟨(some 9), .mov (.t 59), none, 0, 0⟩,
 ⟨(some 10), .mov (.t 61), none, 0, 0⟩] false)))))
 (.seq
 (.seq
 (.region [⟨(some 62), .mov (.t 9), none, 0, 0⟩,
 ⟨(some 63), .bin .gtr (.t 62) (.c (.d (.sc (.int .i64 0)))), none, 0, 0⟩,
 ⟨(some 64), .mov (.t 63), none, 0, 0⟩,
 ⟨(some 65), .mov (.t 10), (some (64, false)), 0, 0⟩,
 ⟨(some 66), .bin .gtr (.t 65) (.c (.d (.sc (.int .i64 0)))), (some (64, false)), 0, 0⟩,
 ⟨(some 67), .pick (.t 64) (.c (.d (.sc (.bool true)))) (.t 66), none, 0, 0⟩] false)
 (.cond (.t 67)
 (.region [⟨(some 68), .mov (.t 8), none, 0, 0⟩,
 ⟨(some 69), .fieldAddr 2 (.t 5), none, 0, 0⟩,
 ⟨(some 70), .load 1 false (.t 69), none, 2, 0⟩,
 ⟨(some 71), .len (.t 70), none, 6, 0⟩,
 ⟨(some 72), .mov (.t 10), none, 0, 0⟩,
 ⟨(some 73), .bin .sub (.t 71) (.t 72), none, 30, 0⟩,
 ⟨(some 74), .fieldAddr 2 (.t 5), none, 0, 0⟩,
 ⟨(some 75), .load 1 false (.t 74), none, 64, 0⟩,
 ⟨(some 76), .mov (.t 10), none, 0, 0⟩,
 ⟨(some 77), .slice 4 (.t 75) none (some (.t 76)) none, none, 448, 0⟩,
 ⟨(some 78), .build [(.d (.sc (.int .u8 0))), (.d (.sc (.int .i64 0))), (.own [] .full), (.own [] .full), (.own [] .full)] [(2, 1, (.t 77))], none, 960, 0⟩,
 ⟨(some 79), .callv (.t 68) [(.c (.d (.sc (.int .u8 3)))), (.t 73), (.t 78)], none, 2047, 0⟩] true)
 .skip))
 (.seq
 (.seq
 (.region [⟨(some 80), .fieldAddr 3 (.t 4), none, 0, 0⟩,
 ⟨(some 81), .load 1 false (.t 80), none, 0, 0⟩,
 ⟨(some 82), .fieldAddr 3 (.t 5), none, 0, 0⟩,
 ⟨(some 83), .load 1 false (.t 82), none, 0, 0⟩,
 ⟨(some 84), .callF 60 [(.t 81), (.t 83), (.c (.clo 61 []))], none, 0, 0⟩,
 ⟨(some 85), .un .not (.t 84), none, 0, 0⟩] false)
 (.cond (.t 85)
 (.region [⟨(some 86), .mov (.t 8), none, 0, 0⟩,
 ⟨(some 87), .fieldAddr 3 (.t 5), none, 0, 0⟩,
 ⟨(some 88), .load 1 false (.t 87), none, 0, 0⟩,
 ⟨(some 89), .build [(.d (.sc (.int .u8 0))), (.d (.sc (.int .i64 0))), (.own [] .full), (.own [] .full), (.own [] .full)] [(3, 1, (.t 88))], none, 0, 0⟩,
 ⟨(some 90), .callv (.t 86) [(.c (.d (.sc (.int .u8 4)))), (.c (.d (.sc (.int .i64 0)))), (.t 89)], none, 0, 0⟩] false)
 .skip))
 (.seq
 (.seq
 (.region [⟨(some 91), .fieldAddr 4 (.t 4), none, 0, 0⟩,
 ⟨(some 92), .load 1 false (.t 91), none, 0, 0⟩,
 ⟨(some 93), .fieldAddr 4 (.t 5), none, 0, 0⟩,
 ⟨(some 94), .load 1 false (.t 93), none, 0, 0⟩,
 ⟨(some 95), .callF 62 [(.t 92), (.t 94), (.c (.clo 63 []))], none, 0, 0⟩,
 ⟨(some 96), .un .not (.t 95), none, 0, 0⟩] false)
 (.cond (.t 96)
 (.region [⟨(some 97), .mov (.t 8), none, 0, 0⟩,
 ⟨(some 98), .fieldAddr 4 (.t 5), none, 0, 0⟩,
 ⟨(some 99), .load 1 false (.t 98), none, 0, 0⟩,
 ⟨(some 100), .build [(.d (.sc (.int .u8 0))), (.d (.sc (.int .i64 0))), (.own [] .full), (.own [] .full), (.own [] .full)] [(4, 1, (.t 99))], none, 0, 0⟩,
 ⟨(some 101), .callv (.t 97) [(.c (.d (.sc (.int .u8 5)))), (.c (.d (.sc (.int .i64 0)))), (.t 100)], none, 0, 0⟩] false)
 .skip))
 (.seq
 (.region [⟨(some 102), .load 1 false (.t 7), none, 0, 0⟩,
 ⟨(some 6), .mov (.t 102), none, 0, 0⟩] false)
 .ret)))))))))), false⟩
/-- wreckage/differ.copyRoutine -/
def t33 : AFn := ⟨1, 95, [.cell 2 5 true],
 (.seq
 (.region [⟨(some 1), .box (.t 0), none, 0, 0⟩,
 ⟨(some 2), .alloc [(.d (.sc (.int .u8 0))), (.d (.sc (.int .i64 0))), (.own [] .full), (.own [] .full), (.own [] .full)], none, 0, 0⟩] false)
 (.seq
 (.region [⟨(some 8), .fieldAddr 2 (.t 1), none, 0, 0⟩,
 ⟨(some 9), .load 1 false (.t 8), none, 1, 0⟩,
 ⟨(some 10), .clone 4 48 (.t 9), none, 3, 1⟩,
 ⟨(some 11), .fieldAddr 3 (.t 1), none, 0, 0⟩,
 ⟨(some 12), .load 1 false (.t 11), none, 8, 0⟩,
 ⟨(some 13), .clone 8 88 (.t 12), none, 31, 1⟩,
 ⟨(some 14), .fieldAddr 4 (.t 1), none, 0, 0⟩,
 ⟨(some 15), .load 1 false (.t 14), none, 64, 0⟩,
 ⟨(some 16), .clone 7 80 (.t 15), none, 255, 1⟩,
 ⟨(some 17), .fieldAddr 2 (.t 1), none, 223, 0⟩,
 ⟨none, .store 1 (.t 17) (.t 10), none, 1023, 0⟩,
 ⟨(some 18), .fieldAddr 3 (.t 1), none, 2047, 0⟩,
 ⟨none, .store 1 (.t 18) (.t 13), none, 4095, 0⟩,
 ⟨(some 19), .fieldAddr 4 (.t 1), none, 8191, 0⟩,
 ⟨none, .store 1 (.t 19) (.t 16), none, 16383, 0⟩] true)
 (.seq
 (.seq
 (.region [⟨(some 20), .fieldAddr 2 (.t 1), none, 0, 0⟩,
 ⟨(some 21), .load 1 false (.t 20), none, 0, 0⟩,
 ⟨(some 22), .len (.t 21), none, 0, 0⟩,
 ⟨(some 23), .mov (.c (.d (.sc (.int .i64 0)))), none, 0, 0⟩] false)
 (.block 0
 (.loop
 (.seq
 (.region [⟨(some 24), .bin .lss (.t 23) (.t 22), none, 0, 0⟩] false)
 (.seq
 (.cond (.t 24)
 .skip
 (.exit 0))
 (.seq
 (.block 1
 (.seq
 (.region [⟨(some 25), .mov (.t 23), none, 0, 0⟩,
 ⟨(some 3), .mov (.t 25), none, 0, 0⟩] false)
 (.seq
 (.region [⟨(some 26), .fieldAddr 2 (.t 1), none, 0, 0⟩,
 ⟨(some 27), .load 1 false (.t 26), none, 0, 0⟩,
 ⟨(some 28), .mov (.t 3), none, 0, 0⟩,
 ⟨(some 29), .indexAddr 4 (.t 27) (.t 28), none, 0, 0⟩,
 ⟨(some 30), .fieldAddr 3 (.t 29), none, 0, 0⟩,
 ⟨(some 31), .load 1 false (.t 30), none, 0, 0⟩,
 ⟨(some 32), .clone 6 72 (.t 31), none, 0, 1⟩,
 ⟨(some 4), .mov (.t 32), none, 0, 0⟩] false)
 (.seq
 (.seq
 (.region [⟨(some 33), .mov (.t 4), none, 0, 0⟩,
 ⟨(some 34), .len (.t 33), none, 0, 0⟩,
 ⟨(some 35), .mov (.c (.d (.sc (.int .i64 0)))), none, 0, 0⟩] false)
 (.block 2
 (.loop
 (.seq
 (.region [⟨(some 36), .bin .lss (.t 35) (.t 34), none, 0, 0⟩] false)
 (.seq
 (.cond (.t 36)
 .skip
 (.exit 2))
 (.seq
 (.block 3
 (.seq
 (.region [⟨(some 37), .mov (.t 35), none, 0, 0⟩,
 ⟨(some 5), .mov (.t 37), none, 0, 0⟩] false)
 (.region [⟨(some 38), .mov (.t 4), none, 0, 0⟩,
 ⟨(some 39), .mov (.t 5), none, 0, 0⟩,
 ⟨(some 40), .mov (.t 4), none, 0, 0⟩,
 ⟨(some 41), .mov (.t 5), none, 0, 0⟩,
 ⟨(some 42), .indexAddr 6 (.t 40) (.t 41), none, 0, 0⟩,
 ⟨(some 43), .fieldAddr 1 (.t 42), none, 0, 0⟩,
 ⟨(some 44), .load 5 true (.t 43), none, 0, 0⟩,
 ⟨(some 45), .call 68 [(.t 44)], none, 0, 0⟩,
 ⟨(some 46), .indexAddr 6 (.t 38) (.t 39), none, 0, 0⟩,
 ⟨(some 47), .fieldAddr 1 (.t 46), none, 0, 0⟩,
 ⟨none, .store 5 (.t 47) (.t 45), none, 0, 0⟩] false)))
 (.region [⟨(some 48), .bin .add (.t 35) (.c (.d (.sc (.int .i64 1)))), none, 0, 0⟩,
 ⟨(some 35), .mov (.t 48), none, 0, 0⟩] false)))))))
 (.region [⟨(some 49), .fieldAddr 2 (.t 1), none, 0, 0⟩,
 ⟨(some 50), .load 1 false (.t 49), none, 0, 0⟩,
 ⟨(some 51), .mov (.t 3), none, 0, 0⟩,
 ⟨(some 52), .mov (.t 4), none, 0, 0⟩,
 ⟨(some 53), .indexAddr 4 (.t 50) (.t 51), none, 0, 0⟩,
 ⟨(some 54), .fieldAddr 3 (.t 53), none, 0, 0⟩,
 ⟨none, .store 1 (.t 54) (.t 52), none, 0, 0⟩] false)))))
 (.region [⟨(some 55), .bin .add (.t 23) (.c (.d (.sc (.int .i64 1)))), none, 0, 0⟩,
 ⟨(some 23), .mov (.t 55), none, 0, 0⟩] false)))))))
 (.seq
 (.seq
 (.region [⟨(some 56), .fieldAddr 3 (.t 1), none, 0, 0⟩,
 ⟨(some 57), .load 1 false (.t 56), none, 0, 0⟩,
 ⟨(some 58), .len (.t 57), none, 0, 0⟩,
 ⟨(some 59), .mov (.c (.d (.sc (.int .i64 0)))), none, 0, 0⟩] false)
 (.block 4
 (.loop
 (.seq
 (.region [⟨(some 60), .bin .lss (.t 59) (.t 58), none, 0, 0⟩] false)
 (.seq
 (.cond (.t 60)
 .skip
 (.exit 4))
 (.seq
 (.block 5
 (.seq
 (.region [⟨(some 61), .mov (.t 59), none, 0, 0⟩,
 ⟨(some 6), .mov (.t 61), none, 0, 0⟩] false)
 (.region [⟨(some 62), .fieldAddr 3 (.t 1), none, 0, 0⟩,
 ⟨(some 63), .load 1 false (.t 62), none, 1, 0⟩,
 ⟨(some 64), .mov (.t 6), none, 0, 0⟩,
 ⟨(some 65), .fieldAddr 3 (.t 1), none, 0, 0⟩,
 ⟨(some 66), .load 1 false (.t 65), none, 8, 0⟩,
 ⟨(some 67), .mov (.t 6), none, 0, 0⟩,
 ⟨(some 68), .indexAddr 8 (.t 66) (.t 67), none, 56, 0⟩,
 ⟨(some 69), .fieldAddr 3 (.t 68), none, 120, 0⟩,
 ⟨(some 70), .load 5 true (.t 69), none, 248, 0⟩,
 ⟨(some 71), .call 68 [(.t 70)], none, 504, 0⟩,
 ⟨(some 72), .indexAddr 8 (.t 63) (.t 64), none, 1023, 0⟩,
 ⟨(some 73), .fieldAddr 3 (.t 72), none, 2047, 0⟩,
 ⟨none, .store 5 (.t 73) (.t 71), none, 4095, 0⟩] true)))
 (.region [⟨(some 74), .bin .add (.t 59) (.c (.d (.sc (.int .i64 1)))), none, 0, 0⟩,
 ⟨(some 59), .mov (.t 74), none, 0, 0⟩] false)))))))
 (.seq
 (.seq
 (.region [⟨(some 75), .fieldAddr 4 (.t 1), none, 0, 0⟩,
 ⟨(some 76), .load 1 false (.t 75), none, 0, 0⟩,
 ⟨(some 77), .len (.t 76), none, 0, 0⟩,
 ⟨(some 78), .mov (.c (.d (.sc (.int .i64 0)))), none, 0, 0⟩] false)
 (.block 6
 (.loop
 (.seq
 (.region [⟨(some 79), .bin .lss (.t 78) (.t 77), none, 0, 0⟩] false)
 (.seq
 (.cond (.t 79)
 .skip
 (.exit 6))
 (.seq
 (.block 7
 (.seq
 (.region [⟨(some 80), .mov (.t 78), none, 0, 0⟩,
 ⟨(some 7), .mov (.t 80), none, 0, 0⟩] false)
 (.region [⟨(some 81), .fieldAddr 4 (.t 1), none, 0, 0⟩,
 ⟨(some 82), .load 1 false (.t 81), none, 1, 0⟩,
 ⟨(some 83), .mov (.t 7), none, 0, 0⟩,
 ⟨(some 84), .fieldAddr 4 (.t 1), none, 0, 0⟩,
 ⟨(some 85), .load 1 false (.t 84), none, 8, 0⟩,
 ⟨(some 86), .mov (.t 7), none, 0, 0⟩,
 ⟨(some 87), .indexAddr 7 (.t 85) (.t 86), none, 56, 0⟩,
 ⟨(some 88), .fieldAddr 1 (.t 87), none, 120, 0⟩,
 ⟨(some 89), .load 5 true (.t 88), none, 248, 0⟩,
 ⟨(some 90), .call 68 [(.t 89)], none, 504, 0⟩,
 ⟨(some 91), .indexAddr 7 (.t 82) (.t 83), none, 1023, 0⟩,
 ⟨(some 92), .fieldAddr 1 (.t 91), none, 2047, 0⟩,
 ⟨none, .store 5 (.t 92) (.t 90), none, 4095, 0⟩] true)))
 (.region [⟨(some 93), .bin .add (.t 78) (.c (.d (.sc (.int .i64 1)))), none, 0, 0⟩,
 ⟨(some 78), .mov (.t 93), none, 0, 0⟩] false)))))))
 (.seq
 (.region [⟨(some 94), .load 5 true (.t 1), none, 0, 0⟩,
 ⟨none, .store 5 (.t 2) (.t 94), none, 0, 0⟩] false)
 .ret)))))), false⟩
/-- slices.EqualFunc[[]wreckage/api.RoutineState,[]wreckage/api.RoutineState,wreckage/api.RoutineState,wreckage/api.RoutineState] -/
def t36 : AFn := ⟨3, 32, [.t 6],
 (.seq
 (.region [⟨(some 6), .mov (.c (.d (.sc (.bool false)))), none, 0, 0⟩] false)
 (.seq
 (.seq
 (.region [⟨(some 10), .mov (.t 0), none, 0, 0⟩,
 ⟨(some 11), .len (.t 10), none, 0, 0⟩,
 ⟨(some 12), .mov (.t 1), none, 0, 0⟩,
 ⟨(some 13), .len (.t 12), none, 0, 0⟩,
 ⟨(some 14), .bin .neq (.t 11) (.t 13), none, 0, 0⟩] false)
 (.cond (.t 14)
 (.seq
 (.region [⟨(some 6), .mov (.c (.d (.sc (.bool false)))), none, 0, 0⟩] false)
 .ret)
 .skip))
 (.seq
 (.seq
 (.region [⟨(some 15), .mov (.t 0), none, 0, 0⟩,
 ⟨(some 16), .len (.t 15), none, 0, 0⟩,
 ⟨(some 17), .mov (.c (.d (.sc (.int .i64 0)))), none, 0, 0⟩] false)
 (.block 0
 (.loop
 (.seq
 (.region [⟨(some 18), .bin .lss (.t 17) (.t 16), none, 0, 0⟩] false)
 (.seq
 (.cond (.t 18)
 .skip
 (.exit 0))
 (.seq
 (.block 1
 (.seq
 (.region [⟨(some 19), .mov (.t 17), none, 0, 0⟩,
 ⟨(some 20), .indexAddr 5 (.t 15) (.t 17), none, 0, 0⟩,
 ⟨(some 21), .load 5 true (.t 20), none, 0, 0⟩,
 ⟨(some 8), .alloc [(.d (.sc (.int .u8 0))), (.d (.sc (.int .i64 0))), (.own [] .full), (.own [] .full), (.own [] .full)], none, 0, 0⟩,
 ⟨(some 7), .mov (.t 19), none, 0, 0⟩,
 ⟨none, .store 5 (.t 8) (.t 21), none, 0, 0⟩] false)
 (.seq
 (.region [⟨(some 22), .mov (.t 1), none, 0, 0⟩,
 ⟨(some 23), .mov (.t 7), none, 0, 0⟩,
 ⟨(some 24), .indexAddr 5 (.t 22) (.t 23), none, 0, 0⟩,
 ⟨(some 25), .load 5 true (.t 24), none, 0, 0⟩,
 ⟨(some 9), .alloc [(.d (.sc (.int .u8 0))), (.d (.sc (.int .i64 0))), (.own [] .full), (.own [] .full), (.own [] .full)], none, 0, 0⟩,
 ⟨none, .store 5 (.t 9) (.t 25), none, 0, 0⟩] false)
 (.seq
 (.region [⟨(some 26), .mov (.t 2), none, 0, 0⟩,
 ⟨(some 27), .load 5 true (.t 8), none, 0, 0⟩,
 ⟨(some 28), .load 5 true (.t 9), none, 0, 0⟩,
 ⟨(some 29), .callv (.t 26) [(.t 27), (.t 28)], none, 0, 0⟩,
 ⟨(some 30), .un .not (.t 29), none, 0, 0⟩] false)
 (.cond (.t 30)
 (.seq
 (.region [⟨(some 6), .mov (.c (.d (.sc (.bool false)))), none, 0, 0⟩] false)
 .ret)
 .skip)))))
 (.region [⟨(some 31), .bin .add (.t 17) (.c (.d (.sc (.int .i64 1)))), none, 0, 0⟩,
 ⟨(some 17), .mov (.t 31), none, 0, 0⟩] false)))))))
 (.seq
 (.region [⟨(some 6), .mov (.c (.d (.sc (.bool true)))), none, 0, 0⟩] false)
 .ret)))), true⟩
/-- wreckage/differ.sameRoutine -/
def t37 : AFn := ⟨2, 38, [.t 4],
 (.seq
 (.region [⟨(some 2), .box (.t 0), none, 0, 0⟩,
 ⟨(some 3), .box (.t 1), none, 0, 0⟩,
 ⟨(some 4), .mov (.c (.d (.sc (.bool false)))), none, 0, 0⟩] false)
 (.seq
 (.region [⟨(some 5), .fieldAddr 0 (.t 2), none, 0, 0⟩,
 ⟨(some 6), .load 1 false (.t 5), none, 0, 0⟩,
 ⟨(some 7), .fieldAddr 0 (.t 3), none, 0, 0⟩,
 ⟨(some 8), .load 1 false (.t 7), none, 0, 0⟩,
 ⟨(some 9), .bin .eql (.t 6) (.t 8), none, 0, 0⟩,
 ⟨(some 10), .mov (.t 9), none, 0, 0⟩,
 ⟨(some 11), .fieldAddr 1 (.t 2), (some (10, true)), 0, 0⟩,
 ⟨(some 12), .load 1 false (.t 11), (some (10, true)), 0, 0⟩,
 ⟨(some 13), .fieldAddr 1 (.t 3), (some (10, true)), 0, 0⟩,
 ⟨(some 14), .load 1 false (.t 13), (some (10, true)), 0, 0⟩,
 ⟨(some 15), .bin .eql (.t 12) (.t 14), (some (10, true)), 0, 0⟩,
 ⟨(some 16), .pick (.t 10) (.t 15) (.c (.d (.sc (.bool false)))), none, 0, 0⟩,
 ⟨(some 17), .mov (.t 16), none, 0, 0⟩,
 ⟨(some 18), .fieldAddr 2 (.t 2), (some (17, true)), 0, 0⟩,
 ⟨(some 19), .load 1 false (.t 18), (some (17, true)), 0, 0⟩,
 ⟨(some 20), .fieldAddr 2 (.t 3), (some (17, true)), 0, 0⟩,
 ⟨(some 21), .load 1 false (.t 20), (some (17, true)), 0, 0⟩,
 ⟨(some 22), .callF 70 [(.t 19), (.t 21), (.c (.clo 59 []))], (some (17, true)), 0, 0⟩,
 ⟨(some 23), .pick (.t 17) (.t 22) (.c (.d (.sc (.bool false)))), none, 0, 0⟩,
 ⟨(some 24), .mov (.t 23), none, 0, 0⟩,
 ⟨(some 25), .fieldAddr 3 (.t 2), (some (24, true)), 0, 0⟩,
 ⟨(some 26), .load 1 false (.t 25), (some (24, true)), 0, 0⟩,
 ⟨(some 27), .fieldAddr 3 (.t 3), (some (24, true)), 0, 0⟩,
 ⟨(some 28), .load 1 false (.t 27), (some (24, true)), 0, 0⟩,
 ⟨(some 29), .callF 60 [(.t 26), (.t 28), (.c (.clo 61 []))], (some (24, true)), 0, 0⟩,
 ⟨(some 30), .pick (.t 24) (.t 29) (.c (.d (.sc (.bool false)))), none, 0, 0⟩,
 ⟨(some 31), .mov (.t 30), none, 0, 0⟩,
 ⟨(some 32), .fieldAddr 4 (.t 2), (some (31, true)), 0, 0⟩,
 ⟨(some 33), .load 1 false (.t 32), (some (31, true)), 0, 0⟩,
 ⟨(some 34), .fieldAddr 4 (.t 3), (some (31, true)), 0, 0⟩,
 ⟨(some 35), .load 1 false (.t 34), (some (31, true)), 0, 0⟩,
 ⟨(some 36), .callF 62 [(.t 33), (.t 35), (.c (.clo 63 []))], (some (31, true)), 0, 0⟩,
 ⟨(some 37), .pick (.t 31) (.t 36) (.c (.d (.sc (.bool false)))), none, 0, 0⟩,
 ⟨(some 4), .mov (.t 37), none, 0, 0⟩] false)
 .ret)), false⟩
/-- wreckage/wreckageref43.SameEdit -/
def t38 : AFn := ⟨2, 52, [.t 4],
 (.seq
 (.region [⟨(some 2), .box (.t 0), none, 0, 0⟩,
 ⟨(some 3), .box (.t 1), none, 0, 0⟩,
 ⟨(some 4), .mov (.c (.d (.sc (.bool false)))), none, 0, 0⟩] false)
 (.seq
 (.region [⟨(some 5), .fieldAddr 0 (.t 2), none, 0, 0⟩,
 ⟨(some 6), .load 1 false (.t 5), none, 0, 0⟩,
 ⟨(some 7), .fieldAddr 0 (.t 3), none, 0, 0⟩,
 ⟨(some 8), .load 1 false (.t 7), none, 0, 0⟩,
 ⟨(some 9), .bin .eql (.t 6) (.t 8), none, 0, 0⟩,
 ⟨(some 10), .mov (.t 9), none, 0, 0⟩,
 ⟨(some 11), .fieldAddr 1 (.t 2), (some (10, true)), 0, 0⟩,
 ⟨(some 12), .load 1 false (.t 11), (some (10, true)), 0, 0⟩,
 ⟨(some 13), .fieldAddr 1 (.t 3), (some (10, true)), 0, 0⟩,
 ⟨(some 14), .load 1 false (.t 13), (some (10, true)), 0, 0⟩,
 ⟨(some 15), .bin .eql (.t 12) (.t 14), (some (10, true)), 0, 0⟩,
 ⟨(some 16), .pick (.t 10) (.t 15) (.c (.d (.sc (.bool false)))), none, 0, 0⟩,
 ⟨(some 17), .mov (.t 16), none, 0, 0⟩,
 ⟨(some 18), .fieldAddr 2 (.t 2), (some (17, true)), 0, 0⟩,
 ⟨(some 19), .load 1 false (.t 18), (some (17, true)), 0, 0⟩,
 ⟨(some 20), .fieldAddr 2 (.t 3), (some (17, true)), 0, 0⟩,
 ⟨(some 21), .load 1 false (.t 20), (some (17, true)), 0, 0⟩,
 ⟨(some 22), .bin .eql (.t 19) (.t 21), (some (17, true)), 0, 0⟩,
 ⟨(some 23), .pick (.t 17) (.t 22) (.c (.d (.sc (.bool false)))), none, 0, 0⟩,
 ⟨(some 24), .mov (.t 23), none, 0, 0⟩,
 ⟨(some 25), .fieldAddr 3 (.t 2), (some (24, true)), 0, 0⟩,
 ⟨(some 26), .load 1 false (.t 25), (some (24, true)), 0, 0⟩,
 ⟨(some 27), .fieldAddr 3 (.t 3), (some (24, true)), 0, 0⟩,
 ⟨(some 28), .load 1 false (.t 27), (some (24, true)), 0, 0⟩,
 ⟨(some 29), .bin .eql (.t 26) (.t 28), (some (24, true)), 0, 0⟩,
 ⟨(some 30), .pick (.t 24) (.t 29) (.c (.d (.sc (.bool false)))), none, 0, 0⟩,
 ⟨(some 31), .mov (.t 30), none, 0, 0⟩,
 ⟨(some 32), .fieldAddr 4 (.t 2), (some (31, true)), 0, 0⟩,
 ⟨(some 33), .load 1 false (.t 32), (some (31, true)), 0, 0⟩,
 ⟨(some 34), .fieldAddr 4 (.t 3), (some (31, true)), 0, 0⟩,
 ⟨(some 35), .load 1 false (.t 34), (some (31, true)), 0, 0⟩,
 ⟨(some 36), .bin .eql (.t 33) (.t 35), (some (31, true)), 0, 0⟩,
 ⟨(some 37), .pick (.t 31) (.t 36) (.c (.d (.sc (.bool false)))), none, 0, 0⟩,
 ⟨(some 38), .mov (.t 37), none, 0, 0⟩,
 ⟨(some 39), .fieldAddr 5 (.t 2), (some (38, true)), 0, 0⟩,
 ⟨(some 40), .load 1 false (.t 39), (some (38, true)), 0, 0⟩,
 ⟨(some 41), .fieldAddr 5 (.t 3), (some (38, true)), 0, 0⟩,
 ⟨(some 42), .load 1 false (.t 41), (some (38, true)), 0, 0⟩,
 ⟨(some 43), .bin .eql (.t 40) (.t 42), (some (38, true)), 0, 0⟩,
 ⟨(some 44), .pick (.t 38) (.t 43) (.c (.d (.sc (.bool false)))), none, 0, 0⟩,
 ⟨(some 45), .mov (.t 44), none, 0, 0⟩,
 ⟨(some 46), .fieldAddr 6 (.t 2), (some (45, true)), 0, 0⟩,
 ⟨(some 47), .load 5 true (.t 46), (some (45, true)), 0, 0⟩,
 ⟨(some 48), .fieldAddr 6 (.t 3), (some (45, true)), 0, 0⟩,
 ⟨(some 49), .load 5 true (.t 48), (some (45, true)), 0, 0⟩,
 ⟨(some 50), .callF 23 [(.t 47), (.t 49)], (some (45, true)), 0, 0⟩,
 ⟨(some 51), .pick (.t 45) (.t 50) (.c (.d (.sc (.bool false)))), none, 0, 0⟩,
 ⟨(some 4), .mov (.t 51), none, 0, 0⟩] false)
 .ret)), false⟩
/-- wreckage/wreckagelaw43.given -/
def t39 : AFn := ⟨0, 18, [.cell 0 4 true, .cell 1 4 true],
 (.seq
 (.region [⟨(some 0), .alloc [(.d (.sc (.int .u8 0))), (.d (.sc (.int .i64 0))), (.d (.sc (.int .i64 0))), (.own [] .full)], none, 0, 0⟩,
 ⟨(some 1), .alloc [(.d (.sc (.int .u8 0))), (.d (.sc (.int .i64 0))), (.d (.sc (.int .i64 0))), (.own [] .full)], none, 0, 0⟩] false)
 (.seq
 (.region [⟨(some 4), .call 40 [(.c (.d (.sc (.int .i64 1))))], none, 0, 0⟩,
 ⟨(some 5), .buildSlice 4 1 [(.sc (.int .i64 0)), (.sc (.int .i64 0)), (.sc (.int .u64 0)), (.sl [])] [(0, (.t 4))], none, 0, 0⟩,
 ⟨(some 6), .build [(.d (.sc (.int .u8 0))), (.d (.sc (.int .i64 0))), (.own [] .full), (.own [] .full), (.own [] .full)] [(0, 1, (.c (.d (.sc (.int .u8 1))))), (2, 1, (.t 5))], none, 0, 0⟩,
 ⟨(some 2), .alloc [(.d (.sc (.int .u8 0))), (.d (.sc (.int .i64 0))), (.own [] .full), (.own [] .full), (.own [] .full)], none, 0, 0⟩,
 ⟨none, .store 5 (.t 2) (.t 6), none, 0, 0⟩] false)
 (.seq
 (.region [⟨(some 7), .call 40 [(.c (.d (.sc (.int .i64 5))))], none, 0, 0⟩,
 ⟨(some 8), .call 40 [(.c (.d (.sc (.int .i64 1))))], none, 0, 0⟩,
 ⟨(some 9), .buildSlice 4 2 [(.sc (.int .i64 0)), (.sc (.int .i64 0)), (.sc (.int .u64 0)), (.sl [])] [(0, (.t 7)), (1, (.t 8))], none, 0, 0⟩,
 ⟨(some 10), .build [(.d (.sc (.int .u8 0))), (.d (.sc (.int .i64 0))), (.own [] .full), (.own [] .full), (.own [] .full)] [(0, 1, (.c (.d (.sc (.int .u8 2))))), (1, 1, (.c (.d (.sc (.int .i64 2))))), (2, 1, (.t 9))], none, 0, 0⟩,
 ⟨(some 3), .alloc [(.d (.sc (.int .u8 0))), (.d (.sc (.int .i64 0))), (.own [] .full), (.own [] .full), (.own [] .full)], none, 0, 0⟩,
 ⟨none, .store 5 (.t 3) (.t 10), none, 0, 0⟩] false)
 (.seq
 (.region [⟨(some 11), .load 5 true (.t 2), none, 0, 0⟩,
 ⟨(some 12), .buildSlice 5 1 [(.sc (.int .u8 0)), (.sc (.int .i64 0)), (.sl []), (.sl []), (.sl [])] [(0, (.t 11))], none, 1, 0⟩,
 ⟨(some 13), .call 28 [(.t 12)], none, 3, 0⟩,
 ⟨(some 14), .load 5 true (.t 3), none, 0, 0⟩,
 ⟨(some 15), .build [(.d (.sc (.int .u8 0))), (.d (.sc (.int .i64 0))), (.own [] .full), (.own [] .full), (.own [] .full)] [(0, 1, (.c (.d (.sc (.int .u8 3)))))], none, 0, 0⟩,
 ⟨(some 16), .buildSlice 5 2 [(.sc (.int .u8 0)), (.sc (.int .i64 0)), (.sl []), (.sl []), (.sl [])] [(0, (.t 14)), (1, (.t 15))], none, 24, 0⟩,
 ⟨(some 17), .call 28 [(.t 16)], none, 63, 0⟩,
 ⟨none, .store 4 (.t 0) (.t 13), none, 127, 0⟩,
 ⟨none, .store 4 (.t 1) (.t 17), none, 255, 0⟩] true)
 .ret)))), false⟩
/-- wreckage/wreckagelaw43.frame -/
def t40 : AFn := ⟨1, 5, [.cell 2 4 true],
 (.seq
 (.region [⟨(some 2), .alloc [(.d (.sc (.int .i64 0))), (.d (.sc (.int .i64 0))), (.d (.sc (.int .u64 0))), (.own [] .full)], none, 0, 0⟩] false)
 (.seq
 (.region [⟨(some 3), .mov (.t 0), none, 0, 0⟩,
 ⟨(some 4), .build [(.d (.sc (.int .i64 0))), (.d (.sc (.int .i64 0))), (.d (.sc (.int .u64 0))), (.own [] .full)] [(1, 1, (.t 3))], none, 0, 0⟩,
 ⟨none, .store 4 (.t 2) (.t 4), none, 0, 0⟩] false)
 .ret)), false⟩
/-- wreckage/differ.check -/
def t41 : AFn := ⟨1, 8, [.t 2],
 (.seq
 (.region [⟨(some 2), .mov (.c (.d (.sc (.int .i64 0)))), none, 0, 0⟩] false)
 (.seq
 (.seq
 (.region [⟨(some 3), .mov (.t 0), none, 0, 0⟩,
 ⟨(some 4), .len (.t 3), none, 0, 0⟩,
 ⟨(some 5), .bin .gtr (.t 4) (.c (.d (.sc (.int .i64 100)))), none, 0, 0⟩] false)
 (.cond (.t 5)
 (.seq
 (.region [⟨(some 2), .mov (.c (.d (.sc (.int .i64 4)))), none, 0, 0⟩] false)
 .ret)
 .skip))
 (.seq
 (.seq
 (.region [⟨(some 6), .mov (.t 0), none, 0, 0⟩,
 ⟨(some 7), .callF 71 [(.t 6), (.c (.clo 72 []))], none, 0, 0⟩] false)
 (.cond (.t 7)
 (.seq
 (.region [⟨(some 2), .mov (.c (.d (.sc (.int .i64 8)))), none, 0, 0⟩] false)
 .ret)
 .skip))
 (.seq
 (.region [⟨(some 2), .mov (.c (.d (.sc (.int .i64 0)))), none, 0, 0⟩] false)
 .ret)))), false⟩
/-- wreckage/differ.copyState -/
def t42 : AFn := ⟨1, 25, [.cell 2 4 true],
 (.seq
 (.region [⟨(some 1), .box (.t 0), none, 0, 0⟩,
 ⟨(some 2), .alloc [(.d (.sc (.int .u8 0))), (.d (.sc (.int .i64 0))), (.d (.sc (.int .i64 0))), (.own [] .full)], none, 0, 0⟩] false)
 (.seq
 (.region [⟨(some 5), .fieldAddr 3 (.t 1), none, 0, 0⟩,
 ⟨(some 6), .load 1 false (.t 5), none, 0, 0⟩,
 ⟨(some 7), .clone 5 88 (.t 6), none, 0, 1⟩,
 ⟨(some 8), .fieldAddr 3 (.t 1), none, 0, 0⟩,
 ⟨none, .store 1 (.t 8) (.t 7), none, 0, 0⟩] false)
 (.seq
 (.seq
 (.region [⟨(some 9), .fieldAddr 3 (.t 1), none, 0, 0⟩,
 ⟨(some 10), .load 1 false (.t 9), none, 0, 0⟩,
 ⟨(some 11), .len (.t 10), none, 0, 0⟩,
 ⟨(some 12), .mov (.c (.d (.sc (.int .i64 0)))), none, 0, 0⟩] false)
 (.block 0
 (.loop
 (.seq
 (.region [⟨(some 13), .bin .lss (.t 12) (.t 11), none, 0, 0⟩] false)
 (.seq
 (.cond (.t 13)
 .skip
 (.exit 0))
 (.seq
 (.block 1
 (.seq
 (.region [⟨(some 14), .mov (.t 12), none, 0, 0⟩,
 ⟨(some 15), .indexAddr 5 (.t 10) (.t 12), none, 0, 0⟩,
 ⟨(some 16), .load 5 true (.t 15), none, 0, 0⟩,
 ⟨(some 4), .alloc [(.d (.sc (.int .u8 0))), (.d (.sc (.int .i64 0))), (.own [] .full), (.own [] .full), (.own [] .full)], none, 0, 0⟩,
 ⟨(some 3), .mov (.t 14), none, 0, 0⟩,
 ⟨none, .store 5 (.t 4) (.t 16), none, 0, 0⟩] false)
 (.region [⟨(some 17), .fieldAddr 3 (.t 1), none, 0, 0⟩,
 ⟨(some 18), .load 1 false (.t 17), none, 1, 0⟩,
 ⟨(some 19), .mov (.t 3), none, 0, 0⟩,
 ⟨(some 20), .load 5 true (.t 4), none, 0, 0⟩,
 ⟨(some 21), .call 33 [(.t 20)], none, 8, 0⟩,
 ⟨(some 22), .indexAddr 5 (.t 18) (.t 19), none, 31, 0⟩,
 ⟨none, .store 5 (.t 22) (.t 21), none, 63, 0⟩] true)))
 (.region [⟨(some 23), .bin .add (.t 12) (.c (.d (.sc (.int .i64 1)))), none, 0, 0⟩,
 ⟨(some 12), .mov (.t 23), none, 0, 0⟩] false)))))))
 (.seq
 (.region [⟨(some 24), .load 4 true (.t 1), none, 0, 0⟩,
 ⟨none, .store 4 (.t 2) (.t 24), none, 0, 0⟩] false)
 .ret)))), false⟩
/-- wreckage/differ.apply -/
def t43 : AFn := ⟨2, 132, [.t 4],
 (.seq
 (.region [⟨(some 3), .box (.t 1), none, 0, 0⟩,
 ⟨(some 4), .mov (.c (.d (.sc (.bool false)))), none, 0, 0⟩] false)
 (.seq
 (.region [⟨(some 8), .fieldAddr 6 (.t 3), none, 0, 0⟩,
 ⟨(some 9), .load 5 true (.t 8), none, 0, 0⟩,
 ⟨(some 10), .call 33 [(.t 9)], none, 0, 0⟩,
 ⟨(some 5), .alloc [(.d (.sc (.int .u8 0))), (.d (.sc (.int .i64 0))), (.own [] .full), (.own [] .full), (.own [] .full)], none, 0, 0⟩,
 ⟨none, .store 5 (.t 5) (.t 10), none, 0, 0⟩] false)
 (.seq
 (.seq
 (.region [⟨(some 11), .fieldAddr 0 (.t 3), none, 0, 0⟩,
 ⟨(some 12), .load 1 false (.t 11), none, 0, 0⟩] false)
 (.block 0
 (.seq
 (.region [⟨(some 14), .bin .eql (.t 12) (.c (.d (.sc (.int .u8 1)))), none, 0, 0⟩,
 ⟨(some 13), .mov (.t 14), none, 0, 0⟩] false)
 (.cond (.t 13)
 (.seq
 (.region [⟨(some 15), .mov (.t 0), none, 0, 0⟩,
 ⟨(some 16), .mov (.t 0), none, 0, 0⟩,
 ⟨(some 17), .mov (.t 0), none, 0, 0⟩,
 ⟨(some 18), .fieldAddr 3 (.t 3), none, 0, 0⟩,
 ⟨(some 19), .load 1 false (.t 18), none, 8, 0⟩,
 ⟨(some 20), .fieldAddr 4 (.t 3), none, 0, 0⟩,
 ⟨(some 21), .load 1 false (.t 20), none, 32, 0⟩,
 ⟨(some 22), .fieldAddr 5 (.t 3), none, 0, 0⟩,
 ⟨(some 23), .load 1 false (.t 22), none, 128, 0⟩,
 ⟨(some 24), .nilCheck (.t 15), none, 25, 0⟩,
 ⟨(some 25), .fieldAddr 0 (.t 24), none, 537, 0⟩,
 ⟨none, .store 1 (.t 25) (.t 19), none, 1561, 0⟩,
 ⟨(some 26), .nilCheck (.t 16), none, 3707, 0⟩,
 ⟨(some 27), .fieldAddr 1 (.t 26), none, 7803, 0⟩,
 ⟨none, .store 1 (.t 27) (.t 21), none, 15995, 0⟩,
 ⟨(some 28), .nilCheck (.t 17), none, 32767, 0⟩,
 ⟨(some 29), .fieldAddr 2 (.t 28), none, 65535, 0⟩,
 ⟨none, .store 1 (.t 29) (.t 23), none, 131071, 0⟩] true)
 (.seq
 (.region [⟨(some 4), .mov (.c (.d (.sc (.bool true)))), none, 0, 0⟩] false)
 .ret))
 (.seq
 (.region [⟨(some 31), .bin .eql (.t 12) (.c (.d (.sc (.int .u8 7)))), none, 0, 0⟩,
 ⟨(some 30), .mov (.t 31), none, 0, 0⟩] false)
 (.cond (.t 30)
 (.seq
 (.region [⟨(some 32), .mov (.t 0), none, 0, 0⟩,
 ⟨(some 33), .mov (.t 0), none, 0, 0⟩,
 ⟨(some 34), .nilCheck (.t 33), none, 2, 0⟩,
 ⟨(some 35), .fieldAddr 3 (.t 34), none, 6, 0⟩,
 ⟨(some 36), .load 1 false (.t 35), none, 14, 0⟩,
 ⟨(some 37), .load 5 true (.t 5), none, 0, 0⟩,
 ⟨(some 38), .buildSlice 5 1 [(.sc (.int .u8 0)), (.sc (.int .i64 0)), (.sl []), (.sl []), (.sl [])] [(0, (.t 37))], none, 32, 0⟩,
 ⟨(some 39), .append 5 88 (.t 36) (.t 38), none, 126, 1⟩,
 ⟨(some 40), .nilCheck (.t 32), none, 255, 0⟩,
 ⟨(some 41), .fieldAddr 3 (.t 40), none, 511, 0⟩,
 ⟨none, .store 1 (.t 41) (.t 39), none, 1023, 0⟩] true)
 (.seq
 (.region [⟨(some 42), .mov (.t 0), none, 0, 0⟩,
 ⟨(some 43), .nilCheck (.t 42), none, 0, 0⟩,
 ⟨(some 44), .load 4 true (.t 43), none, 0, 0⟩,
 ⟨(some 45), .buildSlice 4 1 [(.sc (.int .u8 0)), (.sc (.int .i64 0)), (.sc (.int .i64 0)), (.sl [])] [(0, (.t 44))], none, 0, 2⟩,
 ⟨(some 46), .callF 31 [(.t 45)], none, 0, 0⟩,
 ⟨(some 4), .mov (.t 46), none, 0, 0⟩] false)
 .ret))
 .skip))))))
 (.seq
 (.seq
 (.region [⟨(some 47), .fieldAddr 1 (.t 3), none, 0, 0⟩,
 ⟨(some 48), .load 1 false (.t 47), none, 1, 0⟩,
 ⟨(some 49), .mov (.t 0), none, 0, 0⟩,
 ⟨(some 50), .nilCheck (.t 49), none, 4, 0⟩,
 ⟨(some 51), .fieldAddr 3 (.t 50), none, 12, 0⟩,
 ⟨(some 52), .load 1 false (.t 51), none, 28, 0⟩,
 ⟨(some 53), .len (.t 52), none, 60, 0⟩,
 ⟨(some 54), .bin .geq (.t 48) (.t 53), none, 127, 0⟩] true)
 (.cond (.t 54)
 (.seq
 (.region [⟨(some 4), .mov (.c (.d (.sc (.bool false)))), none, 0, 0⟩] false)
 .ret)
 .skip))
 (.seq
 (.region [⟨(some 55), .mov (.t 0), none, 0, 0⟩,
 ⟨(some 56), .nilCheck (.t 55), none, 1, 0⟩,
 ⟨(some 57), .fieldAddr 3 (.t 56), none, 3, 0⟩,
 ⟨(some 58), .load 1 false (.t 57), none, 7, 0⟩,
 ⟨(some 59), .fieldAddr 1 (.t 3), none, 0, 0⟩,
 ⟨(some 60), .load 1 false (.t 59), none, 16, 0⟩,
 ⟨(some 61), .indexAddr 5 (.t 58) (.t 60), none, 63, 0⟩,
 ⟨(some 6), .mov (.t 61), none, 127, 0⟩] true)
 (.seq
 (.seq
 (.region [⟨(some 62), .fieldAddr 0 (.t 3), none, 0, 0⟩,
 ⟨(some 63), .load 1 false (.t 62), none, 0, 0⟩] false)
 (.block 1
 (.seq
 (.region [⟨(some 65), .bin .eql (.t 63) (.c (.d (.sc (.int .u8 2)))), none, 0, 0⟩,
 ⟨(some 64), .mov (.t 65), none, 0, 0⟩] false)
 (.cond (.t 64)
 (.region [⟨(some 66), .mov (.t 6), none, 0, 0⟩,
 ⟨(some 67), .mov (.t 6), none, 0, 0⟩,
 ⟨(some 68), .fieldAddr 0 (.t 5), none, 0, 0⟩,
 ⟨(some 69), .load 1 false (.t 68), none, 4, 0⟩,
 ⟨(some 70), .fieldAddr 1 (.t 5), none, 0, 0⟩,
 ⟨(some 71), .load 1 false (.t 70), none, 16, 0⟩,
 ⟨(some 72), .nilCheck (.t 66), none, 13, 0⟩,
 ⟨(some 73), .fieldAddr 0 (.t 72), none, 77, 0⟩,
 ⟨none, .store 1 (.t 73) (.t 69), none, 205, 0⟩,
 ⟨(some 74), .nilCheck (.t 67), none, 511, 0⟩,
 ⟨(some 75), .fieldAddr 1 (.t 74), none, 1023, 0⟩,
 ⟨none, .store 1 (.t 75) (.t 71), none, 2047, 0⟩] true)
 (.seq
 (.region [⟨(some 77), .bin .eql (.t 63) (.c (.d (.sc (.int .u8 3)))), none, 0, 0⟩,
 ⟨(some 76), .mov (.t 77), none, 0, 0⟩] false)
 (.cond (.t 76)
 (.seq
 (.region [⟨(some 78), .mov (.t 6), none, 0, 0⟩,
 ⟨(some 79), .nilCheck (.t 78), none, 1, 0⟩,
 ⟨(some 80), .fieldAddr 2 (.t 79), none, 3, 0⟩,
 ⟨(some 81), .load 1 false (.t 80), none, 7, 0⟩,
 ⟨(some 82), .len (.t 81), none, 15, 0⟩,
 ⟨(some 83), .fieldAddr 2 (.t 3), none, 0, 0⟩,
 ⟨(some 84), .load 1 false (.t 83), none, 32, 0⟩,
 ⟨(some 85), .bin .sub (.t 82) (.t 84), none, 127, 0⟩,
 ⟨(some 7), .mov (.t 85), none, 255, 0⟩] true)
 (.seq
 (.seq
 (.region [⟨(some 86), .mov (.t 7), none, 0, 0⟩,
 ⟨(some 87), .bin .lss (.t 86) (.c (.d (.sc (.int .i64 0)))), none, 0, 0⟩] false)
 (.cond (.t 87)
 (.seq
 (.region [⟨(some 4), .mov (.c (.d (.sc (.bool false)))), none, 0, 0⟩] false)
 .ret)
 .skip))
 (.region [⟨(some 88), .mov (.t 6), none, 0, 0⟩,
 ⟨(some 89), .fieldAddr 2 (.t 5), none, 0, 0⟩,
 ⟨(some 90), .load 1 false (.t 89), none, 2, 0⟩,
 ⟨(some 91), .mov (.t 6), none, 0, 0⟩,
 ⟨(some 92), .nilCheck (.t 91), none, 8, 0⟩,
 ⟨(some 93), .fieldAddr 2 (.t 92), none, 24, 0⟩,
 ⟨(some 94), .load 1 false (.t 93), none, 56, 0⟩,
 ⟨(some 95), .mov (.t 7), none, 0, 0⟩,
 ⟨(some 96), .slice 4 (.t 94) (some (.t 95)) none none, none, 248, 0⟩,
 ⟨(some 97), .buildSlice 1 2 [(.sl [])] [(0, (.t 90)), (1, (.t 96))], none, 510, 0⟩,
 ⟨(some 98), .call 74 [(.t 97)], none, 1022, 0⟩,
 ⟨(some 99), .nilCheck (.t 88), none, 2047, 0⟩,
 ⟨(some 100), .fieldAddr 2 (.t 99), none, 4095, 0⟩,
 ⟨none, .store 1 (.t 100) (.t 98), none, 8191, 0⟩] true)))
 (.seq
 (.region [⟨(some 102), .bin .eql (.t 63) (.c (.d (.sc (.int .u8 4)))), none, 0, 0⟩,
 ⟨(some 101), .mov (.t 102), none, 0, 0⟩] false)
 (.cond (.t 101)
 (.region [⟨(some 103), .mov (.t 6), none, 0, 0⟩,
 ⟨(some 104), .fieldAddr 3 (.t 5), none, 0, 0⟩,
 ⟨(some 105), .load 1 false (.t 104), none, 0, 0⟩,
 ⟨(some 106), .nilCheck (.t 103), none, 0, 0⟩,
 ⟨(some 107), .fieldAddr 3 (.t 106), none, 0, 0⟩,
 ⟨none, .store 1 (.t 107) (.t 105), none, 0, 0⟩] false)
 (.seq
 (.region [⟨(some 109), .bin .eql (.t 63) (.c (.d (.sc (.int .u8 5)))), none, 0, 0⟩,
 ⟨(some 108), .mov (.t 109), none, 0, 0⟩] false)
 (.cond (.t 108)
 (.region [⟨(some 110), .mov (.t 6), none, 0, 0⟩,
 ⟨(some 111), .fieldAddr 4 (.t 5), none, 0, 0⟩,
 ⟨(some 112), .load 1 false (.t 111), none, 0, 0⟩,
 ⟨(some 113), .nilCheck (.t 110), none, 0, 0⟩,
 ⟨(some 114), .fieldAddr 4 (.t 113), none, 0, 0⟩,
 ⟨none, .store 1 (.t 114) (.t 112), none, 0, 0⟩] false)
 (.seq
 (.region [⟨(some 116), .bin .eql (.t 63) (.c (.d (.sc (.int .u8 6)))), none, 0, 0⟩,
 ⟨(some 115), .mov (.t 116), none, 0, 0⟩] false)
 (.cond (.t 115)
 (.region [⟨(some 117), .mov (.t 0), none, 0, 0⟩,
 ⟨(some 118), .mov (.t 0), none, 0, 0⟩,
 ⟨(some 119), .nilCheck (.t 118), none, 2, 0⟩,
 ⟨(some 120), .fieldAddr 3 (.t 119), none, 6, 0⟩,
 ⟨(some 121), .load 1 false (.t 120), none, 14, 0⟩,
 ⟨(some 122), .fieldAddr 1 (.t 3), none, 0, 0⟩,
 ⟨(some 123), .load 1 false (.t 122), none, 32, 0⟩,
 ⟨(some 124), .slice 5 (.t 121) none (some (.t 123)) none, none, 126, 0⟩,
 ⟨(some 125), .nilCheck (.t 117), none, 255, 0⟩,
 ⟨(some 126), .fieldAddr 3 (.t 125), none, 511, 0⟩,
 ⟨none, .store 1 (.t 126) (.t 124), none, 1023, 0⟩] true)
 .skip))))))))))))
 (.seq
 (.region [⟨(some 127), .mov (.t 0), none, 0, 0⟩,
 ⟨(some 128), .nilCheck (.t 127), none, 0, 0⟩,
 ⟨(some 129), .load 4 true (.t 128), none, 0, 0⟩,
 ⟨(some 130), .buildSlice 4 1 [(.sc (.int .u8 0)), (.sc (.int .i64 0)), (.sc (.int .i64 0)), (.sl [])] [(0, (.t 129))], none, 0, 2⟩,
 ⟨(some 131), .callF 31 [(.t 130)], none, 0, 0⟩,
 ⟨(some 4), .mov (.t 131), none, 0, 0⟩] false)
 .ret))))))), true⟩
/-- wreckage/wreckageref38.SameLocals -/
def t44 : AFn := ⟨2, 42, [.t 4],
 (.seq
 (.region [⟨(some 4), .mov (.c (.d (.sc (.bool false)))), none, 0, 0⟩] false)
 (.seq
 (.seq
 (.region [⟨(some 6), .mov (.t 0), none, 0, 0⟩,
 ⟨(some 7), .len (.t 6), none, 0, 0⟩,
 ⟨(some 8), .mov (.t 1), none, 0, 0⟩,
 ⟨(some 9), .len (.t 8), none, 0, 0⟩,
 ⟨(some 10), .bin .neq (.t 7) (.t 9), none, 0, 0⟩] false)
 (.cond (.t 10)
 (.seq
 (.region [⟨(some 4), .mov (.c (.d (.sc (.bool false)))), none, 0, 0⟩] false)
 .ret)
 .skip))
 (.seq
 (.seq
 (.region [⟨(some 5), .mov (.c (.d (.sc (.int .i64 0)))), none, 0, 0⟩] false)
 (.block 0
 (.loop
 (.seq
 (.seq
 (.region [⟨(some 11), .mov (.t 5), none, 0, 0⟩,
 ⟨(some 12), .mov (.t 0), none, 0, 0⟩,
 ⟨(some 13), .len (.t 12), none, 0, 0⟩,
 ⟨(some 14), .bin .lss (.t 11) (.t 13), none, 0, 0⟩] false)
 (.cond (.t 14)
 .skip
 (.exit 0)))
 (.seq
 (.block 1
 (.seq
 (.region [⟨(some 17), .mov (.t 0), none, 0, 0⟩,
 ⟨(some 18), .mov (.t 5), none, 0, 0⟩,
 ⟨(some 19), .indexAddr 6 (.t 17) (.t 18), none, 3, 0⟩,
 ⟨(some 20), .fieldAddr 0 (.t 19), none, 7, 0⟩,
 ⟨(some 21), .load 1 false (.t 20), none, 15, 0⟩,
 ⟨(some 22), .mov (.t 1), none, 0, 0⟩,
 ⟨(some 23), .mov (.t 5), none, 0, 0⟩,
 ⟨(some 24), .indexAddr 6 (.t 22) (.t 23), none, 96, 0⟩,
 ⟨(some 25), .fieldAddr 0 (.t 24), none, 224, 0⟩,
 ⟨(some 26), .load 1 false (.t 25), none, 480, 0⟩,
 ⟨(some 27), .bin .neq (.t 21) (.t 26), none, 1023, 0⟩,
 ⟨(some 28), .mov (.t 27), none, 2047, 0⟩,
 ⟨(some 29), .mov (.t 0), (some (28, false)), 4095, 0⟩,
 ⟨(some 30), .mov (.t 5), (some (28, false)), 4095, 0⟩,
 ⟨(some 31), .indexAddr 6 (.t 29) (.t 30), (some (28, false)), 16383, 0⟩,
 ⟨(some 32), .fieldAddr 1 (.t 31), (some (28, false)), 32767, 0⟩,
 ⟨(some 33), .load 5 true (.t 32), (some (28, false)), 65535, 0⟩,
 ⟨(some 34), .mov (.t 1), (some (28, false)), 4095, 0⟩,
 ⟨(some 35), .mov (.t 5), (some (28, false)), 4095, 0⟩,
 ⟨(some 36), .indexAddr 6 (.t 34) (.t 35), (some (28, false)), 397311, 0⟩,
 ⟨(some 37), .fieldAddr 1 (.t 36), (some (28, false)), 921599, 0⟩,
 ⟨(some 38), .load 5 true (.t 37), (some (28, false)), 1970175, 0⟩,
 ⟨(some 39), .callF 49 [(.t 33), (.t 38)], (some (28, false)), 4194303, 0⟩,
 ⟨(some 40), .un .not (.t 39), (some (28, false)), 8388607, 0⟩,
 ⟨(some 41), .pick (.t 28) (.c (.d (.sc (.bool true)))) (.t 40), none, 16777215, 0⟩] true)
 (.cond (.t 41)
 (.seq
 (.region [⟨(some 4), .mov (.c (.d (.sc (.bool false)))), none, 0, 0⟩] false)
 .ret)
 .skip)))
 (.region [⟨(some 15), .mov (.t 5), none, 0, 0⟩,
 ⟨(some 16), .bin .add (.t 15) (.c (.d (.sc (.int .i64 1)))), none, 0, 0⟩,
 ⟨(some 5), .mov (.t 16), none, 0, 0⟩] false))))))
 (.seq
 (.region [⟨(some 4), .mov (.c (.d (.sc (.bool true)))), none, 0, 0⟩] false)
 .ret)))), false⟩
/-- wreckage/differ.fair -/
def t45 : AFn := ⟨1, 19, [.t 2],
 (.seq
 (.region [⟨(some 1), .box (.t 0), none, 0, 0⟩,
 ⟨(some 2), .mov (.c (.d (.sc (.bool false)))), none, 0, 0⟩] false)
 (.seq
 (.region [⟨(some 3), .fieldAddr 2 (.t 1), none, 0, 0⟩,
 ⟨(some 4), .load 1 false (.t 3), none, 0, 0⟩,
 ⟨(some 5), .len (.t 4), none, 0, 0⟩,
 ⟨(some 6), .bin .leq (.t 5) (.c (.d (.sc (.int .i64 170)))), none, 0, 0⟩,
 ⟨(some 7), .mov (.t 6), none, 0, 0⟩,
 ⟨(some 8), .fieldAddr 3 (.t 1), (some (7, true)), 0, 0⟩,
 ⟨(some 9), .load 1 false (.t 8), (some (7, true)), 0, 0⟩,
 ⟨(some 10), .len (.t 9), (some (7, true)), 0, 0⟩,
 ⟨(some 11), .bin .leq (.t 10) (.c (.d (.sc (.int .i64 410)))), (some (7, true)), 0, 0⟩,
 ⟨(some 12), .pick (.t 7) (.t 11) (.c (.d (.sc (.bool false)))), none, 0, 0⟩,
 ⟨(some 13), .mov (.t 12), none, 0, 0⟩,
 ⟨(some 14), .fieldAddr 4 (.t 1), (some (13, true)), 0, 0⟩,
 ⟨(some 15), .load 1 false (.t 14), (some (13, true)), 0, 0⟩,
 ⟨(some 16), .len (.t 15), (some (13, true)), 0, 0⟩,
 ⟨(some 17), .bin .leq (.t 16) (.c (.d (.sc (.int .i64 410)))), (some (13, true)), 0, 0⟩,
 ⟨(some 18), .pick (.t 13) (.t 17) (.c (.d (.sc (.bool false)))), none, 0, 0⟩,
 ⟨(some 2), .mov (.t 18), none, 0, 0⟩] false)
 .ret)), false⟩
/-- slices.Sort[[]int,int] -/
def t46 : AFn := ⟨1, 11, [],
 (.seq
 (.region [⟨(some 3), .mov (.t 0), none, 0, 0⟩,
 ⟨(some 4), .len (.t 3), none, 0, 0⟩,
 ⟨(some 2), .mov (.t 4), none, 0, 0⟩] false)
 (.region [⟨(some 5), .mov (.t 0), none, 0, 0⟩,
 ⟨(some 6), .mov (.t 2), none, 0, 0⟩,
 ⟨(some 7), .mov (.t 2), none, 0, 0⟩,
 ⟨(some 8), .conv .u64 (.t 7), none, 0, 0⟩,
 ⟨(some 9), .callF 76 [(.t 8)], none, 0, 0⟩,
 ⟨(some 10), .callF 75 [(.t 5), (.c (.d (.sc (.int .i64 0)))), (.t 6), (.t 9)], none, 0, 0⟩] false)), true⟩
/-- slices.Compact[[]int,int] -/
def t47 : AFn := ⟨1, 61, [.t 2],
 (.seq
 (.region [⟨(some 2), .mov (.c (.own [] .full)), none, 0, 0⟩] false)
 (.seq
 (.seq
 (.region [⟨(some 6), .mov (.t 0), none, 0, 0⟩,
 ⟨(some 7), .len (.t 6), none, 0, 0⟩,
 ⟨(some 8), .bin .lss (.t 7) (.c (.d (.sc (.int .i64 2)))), none, 0, 0⟩] false)
 (.cond (.t 8)
 (.seq
 (.region [⟨(some 9), .mov (.t 0), none, 0, 0⟩,
 ⟨(some 2), .mov (.t 9), none, 0, 0⟩] false)
 .ret)
 .skip))
 (.seq
 (.seq
 (.region [⟨(some 3), .mov (.c (.d (.sc (.int .i64 1)))), none, 0, 0⟩] false)
 (.block 0
 (.loop
 (.seq
 (.seq
 (.region [⟨(some 10), .mov (.t 3), none, 0, 0⟩,
 ⟨(some 11), .mov (.t 0), none, 0, 0⟩,
 ⟨(some 12), .len (.t 11), none, 0, 0⟩,
 ⟨(some 13), .bin .lss (.t 10) (.t 12), none, 0, 0⟩] false)
 (.cond (.t 13)
 .skip
 (.exit 0)))
 (.seq
 (.block 1
 (.seq
 (.region [⟨(some 16), .mov (.t 0), none, 0, 0⟩,
 ⟨(some 17), .mov (.t 3), none, 0, 0⟩,
 ⟨(some 18), .indexAddr 1 (.t 16) (.t 17), none, 3, 0⟩,
 ⟨(some 19), .load 1 false (.t 18), none, 7, 0⟩,
 ⟨(some 20), .mov (.t 0), none, 0, 0⟩,
 ⟨(some 21), .mov (.t 3), none, 0, 0⟩,
 ⟨(some 22), .bin .sub (.t 21) (.c (.d (.sc (.int .i64 1)))), none, 32, 0⟩,
 ⟨(some 23), .indexAddr 1 (.t 20) (.t 22), none, 112, 0⟩,
 ⟨(some 24), .load 1 false (.t 23), none, 240, 0⟩,
 ⟨(some 25), .bin .eql (.t 19) (.t 24), none, 511, 0⟩] true)
 (.cond (.t 25)
 (.seq
 (.region [⟨(some 26), .mov (.t 0), none, 0, 0⟩,
 ⟨(some 27), .mov (.t 3), none, 0, 0⟩,
 ⟨(some 28), .slice 1 (.t 26) (some (.t 27)) none none, none, 0, 0⟩,
 ⟨(some 4), .mov (.t 28), none, 0, 0⟩] false)
 (.seq
 (.seq
 (.region [⟨(some 5), .mov (.c (.d (.sc (.int .i64 1)))), none, 0, 0⟩] false)
 (.block 2
 (.loop
 (.seq
 (.seq
 (.region [⟨(some 29), .mov (.t 5), none, 0, 0⟩,
 ⟨(some 30), .mov (.t 4), none, 0, 0⟩,
 ⟨(some 31), .len (.t 30), none, 0, 0⟩,
 ⟨(some 32), .bin .lss (.t 29) (.t 31), none, 0, 0⟩] false)
 (.cond (.t 32)
 .skip
 (.exit 2)))
 (.seq
 (.block 3
 (.seq
 (.region [⟨(some 35), .mov (.t 4), none, 0, 0⟩,
 ⟨(some 36), .mov (.t 5), none, 0, 0⟩,
 ⟨(some 37), .indexAddr 1 (.t 35) (.t 36), none, 3, 0⟩,
 ⟨(some 38), .load 1 false (.t 37), none, 7, 0⟩,
 ⟨(some 39), .mov (.t 4), none, 0, 0⟩,
 ⟨(some 40), .mov (.t 5), none, 0, 0⟩,
 ⟨(some 41), .bin .sub (.t 40) (.c (.d (.sc (.int .i64 1)))), none, 32, 0⟩,
 ⟨(some 42), .indexAddr 1 (.t 39) (.t 41), none, 112, 0⟩,
 ⟨(some 43), .load 1 false (.t 42), none, 240, 0⟩,
 ⟨(some 44), .bin .neq (.t 38) (.t 43), none, 511, 0⟩] true)
 (.cond (.t 44)
 (.seq
 (.region [⟨(some 45), .mov (.t 0), none, 0, 0⟩,
 ⟨(some 46), .mov (.t 3), none, 0, 0⟩,
 ⟨(some 47), .mov (.t 4), none, 0, 0⟩,
 ⟨(some 48), .mov (.t 5), none, 0, 0⟩,
 ⟨(some 49), .indexAddr 1 (.t 47) (.t 48), none, 0, 0⟩,
 ⟨(some 50), .load 1 false (.t 49), none, 0, 0⟩,
 ⟨(some 51), .indexAddr 1 (.t 45) (.t 46), none, 0, 0⟩,
 ⟨none, .store 1 (.t 51) (.t 50), none, 0, 0⟩] false)
 (.region [⟨(some 52), .mov (.t 3), none, 0, 0⟩,
 ⟨(some 53), .bin .add (.t 52) (.c (.d (.sc (.int .i64 1)))), none, 0, 0⟩,
 ⟨(some 3), .mov (.t 53), none, 0, 0⟩] false))
 .skip)))
 (.region [⟨(some 33), .mov (.t 5), none, 0, 0⟩,
 ⟨(some 34), .bin .add (.t 33) (.c (.d (.sc (.int .i64 1)))), none, 0, 0⟩,
 ⟨(some 5), .mov (.t 34), none, 0, 0⟩] false))))))
 (.seq
 (.region [⟨(some 54), .mov (.t 0), none, 0, 0⟩,
 ⟨(some 55), .mov (.t 3), none, 0, 0⟩,
 ⟨(some 56), .slice 1 (.t 54) (some (.t 55)) none none, none, 0, 0⟩,
 ⟨none, .clear 1 [(.sc (.int .i64 0))] (.t 56), none, 0, 0⟩] false)
 (.seq
 (.region [⟨(some 57), .mov (.t 0), none, 0, 0⟩,
 ⟨(some 58), .mov (.t 3), none, 0, 0⟩,
 ⟨(some 59), .slice 1 (.t 57) none (some (.t 58)) none, none, 0, 0⟩,
 ⟨(some 2), .mov (.t 59), none, 0, 0⟩] false)
 .ret))))
 .skip)))
 (.region [⟨(some 14), .mov (.t 3), none, 0, 0⟩,
 ⟨(some 15), .bin .add (.t 14) (.c (.d (.sc (.int .i64 1)))), none, 0, 0⟩,
 ⟨(some 3), .mov (.t 15), none, 0, 0⟩] false))))))
 (.seq
 (.region [⟨(some 60), .mov (.t 0), none, 0, 0⟩,
 ⟨(some 2), .mov (.t 60), none, 0, 0⟩] false)
 .ret)))), true⟩
/-- wreckage/wreckageref39.SameAll -/
def t48 : AFn := ⟨2, 27, [.t 4],
 (.seq
 (.region [⟨(some 4), .mov (.c (.d (.sc (.bool false)))), none, 0, 0⟩] false)
 (.seq
 (.seq
 (.region [⟨(some 6), .mov (.t 0), none, 0, 0⟩,
 ⟨(some 7), .len (.t 6), none, 0, 0⟩,
 ⟨(some 8), .mov (.t 1), none, 0, 0⟩,
 ⟨(some 9), .len (.t 8), none, 0, 0⟩,
 ⟨(some 10), .bin .neq (.t 7) (.t 9), none, 0, 0⟩] false)
 (.cond (.t 10)
 (.seq
 (.region [⟨(some 4), .mov (.c (.d (.sc (.bool false)))), none, 0, 0⟩] false)
 .ret)
 .skip))
 (.seq
 (.seq
 (.region [⟨(some 5), .mov (.c (.d (.sc (.int .i64 0)))), none, 0, 0⟩] false)
 (.block 0
 (.loop
 (.seq
 (.seq
 (.region [⟨(some 11), .mov (.t 5), none, 0, 0⟩,
 ⟨(some 12), .mov (.t 0), none, 0, 0⟩,
 ⟨(some 13), .len (.t 12), none, 0, 0⟩,
 ⟨(some 14), .bin .lss (.t 11) (.t 13), none, 0, 0⟩] false)
 (.cond (.t 14)
 .skip
 (.exit 0)))
 (.seq
 (.block 1
 (.seq
 (.region [⟨(some 17), .mov (.t 0), none, 0, 0⟩,
 ⟨(some 18), .mov (.t 5), none, 0, 0⟩,
 ⟨(some 19), .indexAddr 7 (.t 17) (.t 18), none, 3, 0⟩,
 ⟨(some 20), .load 7 true (.t 19), none, 7, 0⟩,
 ⟨(some 21), .mov (.t 1), none, 0, 0⟩,
 ⟨(some 22), .mov (.t 5), none, 0, 0⟩,
 ⟨(some 23), .indexAddr 7 (.t 21) (.t 22), none, 48, 0⟩,
 ⟨(some 24), .load 7 true (.t 23), none, 112, 0⟩,
 ⟨(some 25), .callF 77 [(.t 20), (.t 24)], none, 255, 0⟩,
 ⟨(some 26), .un .not (.t 25), none, 511, 0⟩] true)
 (.cond (.t 26)
 (.seq
 (.region [⟨(some 4), .mov (.c (.d (.sc (.bool false)))), none, 0, 0⟩] false)
 .ret)
 .skip)))
 (.region [⟨(some 15), .mov (.t 5), none, 0, 0⟩,
 ⟨(some 16), .bin .add (.t 15) (.c (.d (.sc (.int .i64 1)))), none, 0, 0⟩,
 ⟨(some 5), .mov (.t 16), none, 0, 0⟩] false))))))
 (.seq
 (.region [⟨(some 4), .mov (.c (.d (.sc (.bool true)))), none, 0, 0⟩] false)
 .ret)))), false⟩
/-- wreckage/wreckageref38.Same -/
def t49 : AFn := ⟨2, 60, [.t 4],
 (.seq
 (.region [⟨(some 2), .box (.t 0), none, 0, 0⟩,
 ⟨(some 3), .box (.t 1), none, 0, 0⟩,
 ⟨(some 4), .mov (.c (.d (.sc (.bool false)))), none, 0, 0⟩] false)
 (.seq
 (.seq
 (.region [⟨(some 6), .fieldAddr 0 (.t 2), none, 0, 0⟩,
 ⟨(some 7), .load 1 false (.t 6), none, 0, 0⟩,
 ⟨(some 8), .fieldAddr 0 (.t 3), none, 0, 0⟩,
 ⟨(some 9), .load 1 false (.t 8), none, 0, 0⟩,
 ⟨(some 10), .bin .neq (.t 7) (.t 9), none, 0, 0⟩,
 ⟨(some 11), .mov (.t 10), none, 0, 0⟩,
 ⟨(some 12), .fieldAddr 1 (.t 2), (some (11, false)), 0, 0⟩,
 ⟨(some 13), .load 1 false (.t 12), (some (11, false)), 0, 0⟩,
 ⟨(some 14), .fieldAddr 1 (.t 3), (some (11, false)), 0, 0⟩,
 ⟨(some 15), .load 1 false (.t 14), (some (11, false)), 0, 0⟩,
 ⟨(some 16), .bin .neq (.t 13) (.t 15), (some (11, false)), 0, 0⟩,
 ⟨(some 17), .pick (.t 11) (.c (.d (.sc (.bool true)))) (.t 16), none, 0, 0⟩,
 ⟨(some 18), .mov (.t 17), none, 0, 0⟩,
 ⟨(some 19), .fieldAddr 2 (.t 2), (some (18, false)), 0, 0⟩,
 ⟨(some 20), .load 1 false (.t 19), (some (18, false)), 0, 0⟩,
 ⟨(some 21), .fieldAddr 2 (.t 3), (some (18, false)), 0, 0⟩,
 ⟨(some 22), .load 1 false (.t 21), (some (18, false)), 0, 0⟩,
 ⟨(some 23), .bin .neq (.t 20) (.t 22), (some (18, false)), 0, 0⟩,
 ⟨(some 24), .pick (.t 18) (.c (.d (.sc (.bool true)))) (.t 23), none, 0, 0⟩,
 ⟨(some 25), .mov (.t 24), none, 0, 0⟩,
 ⟨(some 26), .fieldAddr 4 (.t 2), (some (25, false)), 0, 0⟩,
 ⟨(some 27), .load 1 false (.t 26), (some (25, false)), 0, 0⟩,
 ⟨(some 28), .fieldAddr 4 (.t 3), (some (25, false)), 0, 0⟩,
 ⟨(some 29), .load 1 false (.t 28), (some (25, false)), 0, 0⟩,
 ⟨(some 30), .eqb true (.t 27) (.t 29), (some (25, false)), 0, 0⟩,
 ⟨(some 31), .pick (.t 25) (.c (.d (.sc (.bool true)))) (.t 30), none, 0, 0⟩,
 ⟨(some 32), .mov (.t 31), none, 0, 0⟩,
 ⟨(some 33), .fieldAddr 3 (.t 2), (some (32, false)), 0, 0⟩,
 ⟨(some 34), .load 1 false (.t 33), (some (32, false)), 0, 0⟩,
 ⟨(some 35), .len (.t 34), (some (32, false)), 0, 0⟩,
 ⟨(some 36), .fieldAddr 3 (.t 3), (some (32, false)), 0, 0⟩,
 ⟨(some 37), .load 1 false (.t 36), (some (32, false)), 0, 0⟩,
 ⟨(some 38), .len (.t 37), (some (32, false)), 0, 0⟩,
 ⟨(some 39), .bin .neq (.t 35) (.t 38), (some (32, false)), 0, 0⟩,
 ⟨(some 40), .pick (.t 32) (.c (.d (.sc (.bool true)))) (.t 39), none, 0, 0⟩] false)
 (.cond (.t 40)
 (.seq
 (.region [⟨(some 4), .mov (.c (.d (.sc (.bool false)))), none, 0, 0⟩] false)
 .ret)
 .skip))
 (.seq
 (.seq
 (.region [⟨(some 5), .mov (.c (.d (.sc (.int .i64 0)))), none, 0, 0⟩] false)
 (.block 0
 (.loop
 (.seq
 (.seq
 (.region [⟨(some 41), .mov (.t 5), none, 0, 0⟩,
 ⟨(some 42), .fieldAddr 3 (.t 2), none, 0, 0⟩,
 ⟨(some 43), .load 1 false (.t 42), none, 0, 0⟩,
 ⟨(some 44), .len (.t 43), none, 0, 0⟩,
 ⟨(some 45), .bin .lss (.t 41) (.t 44), none, 0, 0⟩] false)
 (.cond (.t 45)
 .skip
 (.exit 0)))
 (.seq
 (.block 1
 (.seq
 (.region [⟨(some 48), .fieldAddr 3 (.t 2), none, 0, 0⟩,
 ⟨(some 49), .load 1 false (.t 48), none, 1, 0⟩,
 ⟨(some 50), .mov (.t 5), none, 0, 0⟩,
 ⟨(some 51), .indexAddr 5 (.t 49) (.t 50), none, 7, 0⟩,
 ⟨(some 52), .load 5 true (.t 51), none, 15, 0⟩,
 ⟨(some 53), .fieldAddr 3 (.t 3), none, 0, 0⟩,
 ⟨(some 54), .load 1 false (.t 53), none, 32, 0⟩,
 ⟨(some 55), .mov (.t 5), none, 0, 0⟩,
 ⟨(some 56), .indexAddr 5 (.t 54) (.t 55), none, 224, 0⟩,
 ⟨(some 57), .load 5 true (.t 56), none, 480, 0⟩,
 ⟨(some 58), .callF 49 [(.t 52), (.t 57)], none, 1023, 0⟩,
 ⟨(some 59), .un .not (.t 58), none, 2047, 0⟩] true)
 (.cond (.t 59)
 (.seq
 (.region [⟨(some 4), .mov (.c (.d (.sc (.bool false)))), none, 0, 0⟩] false)
 .ret)
 .skip)))
 (.region [⟨(some 46), .mov (.t 5), none, 0, 0⟩,
 ⟨(some 47), .bin .add (.t 46) (.c (.d (.sc (.int .i64 1)))), none, 0, 0⟩,
 ⟨(some 5), .mov (.t 47), none, 0, 0⟩] false))))))
 (.seq
 (.region [⟨(some 4), .mov (.c (.d (.sc (.bool true)))), none, 0, 0⟩] false)
 .ret)))), false⟩
/-- slices.ContainsFunc[[]wreckage/api.RoutineState,wreckage/api.RoutineState] -/
def t56 : AFn := ⟨2, 9, [.t 4],
 (.seq
 (.region [⟨(some 4), .mov (.c (.d (.sc (.bool false)))), none, 0, 0⟩] false)
 (.seq
 (.region [⟨(some 5), .mov (.t 0), none, 0, 0⟩,
 ⟨(some 6), .mov (.t 1), none, 0, 0⟩,
 ⟨(some 7), .callF 80 [(.t 5), (.t 6)], none, 0, 0⟩,
 ⟨(some 8), .bin .geq (.t 7) (.c (.d (.sc (.int .i64 0)))), none, 0, 0⟩,
 ⟨(some 4), .mov (.t 8), none, 0, 0⟩] false)
 .ret)), true⟩
/-- wreckage/differ.whole$1 -/
def t57 : AFn := ⟨1, 6, [.t 2],
 (.seq
 (.region [⟨(some 1), .box (.t 0), none, 0, 0⟩,
 ⟨(some 2), .mov (.c (.d (.sc (.bool false)))), none, 0, 0⟩] false)
 (.seq
 (.region [⟨(some 3), .load 5 true (.t 1), none, 0, 0⟩,
 ⟨(some 4), .callF 45 [(.t 3)], none, 0, 0⟩,
 ⟨(some 5), .un .not (.t 4), none, 0, 0⟩,
 ⟨(some 2), .mov (.t 5), none, 0, 0⟩] false)
 .ret)), false⟩
/-- wreckage/differ.between$1 -/
def t58 : AFn := ⟨5, 17, [],
 (.seq
 (.region [⟨(some 7), .box (.t 2), none, 0, 0⟩] false)
 (.region [⟨(some 8), .load 1 false (.t 3), none, 0, 0⟩,
 ⟨(some 9), .mov (.t 0), none, 0, 0⟩,
 ⟨(some 10), .load 1 false (.t 4), none, 0, 0⟩,
 ⟨(some 11), .mov (.t 1), none, 0, 0⟩,
 ⟨(some 12), .load 5 true (.t 7), none, 0, 0⟩,
 ⟨(some 13), .call 33 [(.t 12)], none, 16, 0⟩,
 ⟨(some 14), .build [(.d (.sc (.int .u8 0))), (.d (.sc (.int .i64 0))), (.d (.sc (.int .i64 0))), (.d (.sc (.int .u8 0))), (.d (.sc (.int .i64 0))), (.d (.sc (.int .i64 0))), (.d (.sc (.int .u8 0))), (.d (.sc (.int .i64 0))), (.own [] .full), (.own [] .full), (.own [] .full)] [(0, 1, (.t 9)), (1, 1, (.t 10)), (2, 1, (.t 11)), (6, 5, (.t 13))], none, 62, 0⟩,
 ⟨(some 15), .buildSlice 11 1 [(.sc (.int .u8 0)), (.sc (.int .i64 0)), (.sc (.int .i64 0)), (.sc (.int .u8 0)), (.sc (.int .i64 0)), (.sc (.int .i64 0)), (.sc (.int .u8 0)), (.sc (.int .i64 0)), (.sl []), (.sl []), (.sl [])] [(0, (.t 14))], none, 126, 0⟩,
 ⟨(some 16), .append 11 136 (.t 8) (.t 15), none, 255, 0⟩,
 ⟨none, .store 1 (.t 3) (.t 16), none, 511, 0⟩] true)), true⟩
/-- wreckage/differ.sameFrame -/
def t59 : AFn := ⟨2, 31, [.t 4],
 (.seq
 (.region [⟨(some 2), .box (.t 0), none, 0, 0⟩,
 ⟨(some 3), .box (.t 1), none, 0, 0⟩,
 ⟨(some 4), .mov (.c (.d (.sc (.bool false)))), none, 0, 0⟩] false)
 (.seq
 (.region [⟨(some 5), .fieldAddr 0 (.t 2), none, 0, 0⟩,
 ⟨(some 6), .load 1 false (.t 5), none, 0, 0⟩,
 ⟨(some 7), .fieldAddr 0 (.t 3), none, 0, 0⟩,
 ⟨(some 8), .load 1 false (.t 7), none, 0, 0⟩,
 ⟨(some 9), .bin .eql (.t 6) (.t 8), none, 0, 0⟩,
 ⟨(some 10), .mov (.t 9), none, 0, 0⟩,
 ⟨(some 11), .fieldAddr 1 (.t 2), (some (10, true)), 0, 0⟩,
 ⟨(some 12), .load 1 false (.t 11), (some (10, true)), 0, 0⟩,
 ⟨(some 13), .fieldAddr 1 (.t 3), (some (10, true)), 0, 0⟩,
 ⟨(some 14), .load 1 false (.t 13), (some (10, true)), 0, 0⟩,
 ⟨(some 15), .bin .eql (.t 12) (.t 14), (some (10, true)), 0, 0⟩,
 ⟨(some 16), .pick (.t 10) (.t 15) (.c (.d (.sc (.bool false)))), none, 0, 0⟩,
 ⟨(some 17), .mov (.t 16), none, 0, 0⟩,
 ⟨(some 18), .fieldAddr 2 (.t 2), (some (17, true)), 0, 0⟩,
 ⟨(some 19), .load 1 false (.t 18), (some (17, true)), 0, 0⟩,
 ⟨(some 20), .fieldAddr 2 (.t 3), (some (17, true)), 0, 0⟩,
 ⟨(some 21), .load 1 false (.t 20), (some (17, true)), 0, 0⟩,
 ⟨(some 22), .bin .eql (.t 19) (.t 21), (some (17, true)), 0, 0⟩,
 ⟨(some 23), .pick (.t 17) (.t 22) (.c (.d (.sc (.bool false)))), none, 0, 0⟩,
 ⟨(some 24), .mov (.t 23), none, 0, 0⟩,
 ⟨(some 25), .fieldAddr 3 (.t 2), (some (24, true)), 0, 0⟩,
 ⟨(some 26), .load 1 false (.t 25), (some (24, true)), 0, 0⟩,
 ⟨(some 27), .fieldAddr 3 (.t 3), (some (24, true)), 0, 0⟩,
 ⟨(some 28), .load 1 false (.t 27), (some (24, true)), 0, 0⟩,
 ⟨(some 29), .callF 81 [(.t 26), (.t 28), (.c (.clo 82 []))], (some (24, true)), 0, 0⟩,
 ⟨(some 30), .pick (.t 24) (.t 29) (.c (.d (.sc (.bool false)))), none, 0, 0⟩,
 ⟨(some 4), .mov (.t 30), none, 0, 0⟩] false)
 .ret)), false⟩
/-- slices.EqualFunc[[]wreckage/api.DeferState,[]wreckage/api.DeferState,wreckage/api.DeferState,wreckage/api.DeferState] -/
def t60 : AFn := ⟨3, 32, [.t 6],
 (.seq
 (.region [⟨(some 6), .mov (.c (.d (.sc (.bool false)))), none, 0, 0⟩] false)
 (.seq
 (.seq
 (.region [⟨(some 10), .mov (.t 0), none, 0, 0⟩,
 ⟨(some 11), .len (.t 10), none, 0, 0⟩,
 ⟨(some 12), .mov (.t 1), none, 0, 0⟩,
 ⟨(some 13), .len (.t 12), none, 0, 0⟩,
 ⟨(some 14), .bin .neq (.t 11) (.t 13), none, 0, 0⟩] false)
 (.cond (.t 14)
 (.seq
 (.region [⟨(some 6), .mov (.c (.d (.sc (.bool false)))), none, 0, 0⟩] false)
 .ret)
 .skip))
 (.seq
 (.seq
 (.region [⟨(some 15), .mov (.t 0), none, 0, 0⟩,
 ⟨(some 16), .len (.t 15), none, 0, 0⟩,
 ⟨(some 17), .mov (.c (.d (.sc (.int .i64 0)))), none, 0, 0⟩] false)
 (.block 0
 (.loop
 (.seq
 (.region [⟨(some 18), .bin .lss (.t 17) (.t 16), none, 0, 0⟩] false)
 (.seq
 (.cond (.t 18)
 .skip
 (.exit 0))
 (.seq
 (.block 1
 (.seq
 (.region [⟨(some 19), .mov (.t 17), none, 0, 0⟩,
 ⟨(some 20), .indexAddr 8 (.t 15) (.t 17), none, 0, 0⟩,
 ⟨(some 21), .load 8 true (.t 20), none, 0, 0⟩,
 ⟨(some 8), .alloc [(.d (.sc (.int .i64 0))), (.d (.sc (.int .i64 0))), (.d (.sc (.bool false))), (.d (.sc (.int .u8 0))), (.d (.sc (.int .i64 0))), (.d (.sc (.string ⟨#[]⟩))), (.own [] .full), (.d (.sc (.bool false)))], none, 0, 0⟩,
 ⟨(some 7), .mov (.t 19), none, 0, 0⟩,
 ⟨none, .store 8 (.t 8) (.t 21), none, 0, 0⟩] false)
 (.seq
 (.region [⟨(some 22), .mov (.t 1), none, 0, 0⟩,
 ⟨(some 23), .mov (.t 7), none, 0, 0⟩,
 ⟨(some 24), .indexAddr 8 (.t 22) (.t 23), none, 0, 0⟩,
 ⟨(some 25), .load 8 true (.t 24), none, 0, 0⟩,
 ⟨(some 9), .alloc [(.d (.sc (.int .i64 0))), (.d (.sc (.int .i64 0))), (.d (.sc (.bool false))), (.d (.sc (.int .u8 0))), (.d (.sc (.int .i64 0))), (.d (.sc (.string ⟨#[]⟩))), (.own [] .full), (.d (.sc (.bool false)))], none, 0, 0⟩,
 ⟨none, .store 8 (.t 9) (.t 25), none, 0, 0⟩] false)
 (.seq
 (.region [⟨(some 26), .mov (.t 2), none, 0, 0⟩,
 ⟨(some 27), .load 8 true (.t 8), none, 0, 0⟩,
 ⟨(some 28), .load 8 true (.t 9), none, 0, 0⟩,
 ⟨(some 29), .callv (.t 26) [(.t 27), (.t 28)], none, 0, 0⟩,
 ⟨(some 30), .un .not (.t 29), none, 0, 0⟩] false)
 (.cond (.t 30)
 (.seq
 (.region [⟨(some 6), .mov (.c (.d (.sc (.bool false)))), none, 0, 0⟩] false)
 .ret)
 .skip)))))
 (.region [⟨(some 31), .bin .add (.t 17) (.c (.d (.sc (.int .i64 1)))), none, 0, 0⟩,
 ⟨(some 17), .mov (.t 31), none, 0, 0⟩] false)))))))
 (.seq
 (.region [⟨(some 6), .mov (.c (.d (.sc (.bool true)))), none, 0, 0⟩] false)
 .ret)))), true⟩
/-- wreckage/differ.sameDefer -/
def t61 : AFn := ⟨2, 31, [.t 4],
 (.seq
 (.region [⟨(some 2), .box (.t 0), none, 0, 0⟩,
 ⟨(some 3), .box (.t 1), none, 0, 0⟩,
 ⟨(some 4), .mov (.c (.d (.sc (.bool false)))), none, 0, 0⟩] false)
 (.seq
 (.region [⟨(some 5), .fieldAddr 0 (.t 2), none, 0, 0⟩,
 ⟨(some 6), .load 1 false (.t 5), none, 0, 0⟩,
 ⟨(some 7), .fieldAddr 0 (.t 3), none, 0, 0⟩,
 ⟨(some 8), .load 1 false (.t 7), none, 0, 0⟩,
 ⟨(some 9), .bin .eql (.t 6) (.t 8), none, 0, 0⟩,
 ⟨(some 10), .mov (.t 9), none, 0, 0⟩,
 ⟨(some 11), .fieldAddr 1 (.t 2), (some (10, true)), 0, 0⟩,
 ⟨(some 12), .load 1 false (.t 11), (some (10, true)), 0, 0⟩,
 ⟨(some 13), .fieldAddr 1 (.t 3), (some (10, true)), 0, 0⟩,
 ⟨(some 14), .load 1 false (.t 13), (some (10, true)), 0, 0⟩,
 ⟨(some 15), .bin .eql (.t 12) (.t 14), (some (10, true)), 0, 0⟩,
 ⟨(some 16), .pick (.t 10) (.t 15) (.c (.d (.sc (.bool false)))), none, 0, 0⟩,
 ⟨(some 17), .mov (.t 16), none, 0, 0⟩,
 ⟨(some 18), .fieldAddr 2 (.t 2), (some (17, true)), 0, 0⟩,
 ⟨(some 19), .load 1 false (.t 18), (some (17, true)), 0, 0⟩,
 ⟨(some 20), .fieldAddr 2 (.t 3), (some (17, true)), 0, 0⟩,
 ⟨(some 21), .load 1 false (.t 20), (some (17, true)), 0, 0⟩,
 ⟨(some 22), .eqb false (.t 19) (.t 21), (some (17, true)), 0, 0⟩,
 ⟨(some 23), .pick (.t 17) (.t 22) (.c (.d (.sc (.bool false)))), none, 0, 0⟩,
 ⟨(some 24), .mov (.t 23), none, 0, 0⟩,
 ⟨(some 25), .fieldAddr 3 (.t 2), (some (24, true)), 0, 0⟩,
 ⟨(some 26), .load 5 true (.t 25), (some (24, true)), 0, 0⟩,
 ⟨(some 27), .fieldAddr 3 (.t 3), (some (24, true)), 0, 0⟩,
 ⟨(some 28), .load 5 true (.t 27), (some (24, true)), 0, 0⟩,
 ⟨(some 29), .callF 83 [(.t 26), (.t 28)], (some (24, true)), 0, 0⟩,
 ⟨(some 30), .pick (.t 24) (.t 29) (.c (.d (.sc (.bool false)))), none, 0, 0⟩,
 ⟨(some 4), .mov (.t 30), none, 0, 0⟩] false)
 .ret)), false⟩
/-- slices.EqualFunc[[]wreckage/api.PanicState,[]wreckage/api.PanicState,wreckage/api.PanicState,wreckage/api.PanicState] -/
def t62 : AFn := ⟨3, 32, [.t 6],
 (.seq
 (.region [⟨(some 6), .mov (.c (.d (.sc (.bool false)))), none, 0, 0⟩] false)
 (.seq
 (.seq
 (.region [⟨(some 10), .mov (.t 0), none, 0, 0⟩,
 ⟨(some 11), .len (.t 10), none, 0, 0⟩,
 ⟨(some 12), .mov (.t 1), none, 0, 0⟩,
 ⟨(some 13), .len (.t 12), none, 0, 0⟩,
 ⟨(some 14), .bin .neq (.t 11) (.t 13), none, 0, 0⟩] false)
 (.cond (.t 14)
 (.seq
 (.region [⟨(some 6), .mov (.c (.d (.sc (.bool false)))), none, 0, 0⟩] false)
 .ret)
 .skip))
 (.seq
 (.seq
 (.region [⟨(some 15), .mov (.t 0), none, 0, 0⟩,
 ⟨(some 16), .len (.t 15), none, 0, 0⟩,
 ⟨(some 17), .mov (.c (.d (.sc (.int .i64 0)))), none, 0, 0⟩] false)
 (.block 0
 (.loop
 (.seq
 (.region [⟨(some 18), .bin .lss (.t 17) (.t 16), none, 0, 0⟩] false)
 (.seq
 (.cond (.t 18)
 .skip
 (.exit 0))
 (.seq
 (.block 1
 (.seq
 (.region [⟨(some 19), .mov (.t 17), none, 0, 0⟩,
 ⟨(some 20), .indexAddr 7 (.t 15) (.t 17), none, 0, 0⟩,
 ⟨(some 21), .load 7 true (.t 20), none, 0, 0⟩,
 ⟨(some 8), .alloc [(.d (.sc (.int .u64 0))), (.d (.sc (.int .u8 0))), (.d (.sc (.int .i64 0))), (.d (.sc (.string ⟨#[]⟩))), (.own [] .full), (.d (.sc (.bool false))), (.d (.sc (.int .u64 0)))], none, 0, 0⟩,
 ⟨(some 7), .mov (.t 19), none, 0, 0⟩,
 ⟨none, .store 7 (.t 8) (.t 21), none, 0, 0⟩] false)
 (.seq
 (.region [⟨(some 22), .mov (.t 1), none, 0, 0⟩,
 ⟨(some 23), .mov (.t 7), none, 0, 0⟩,
 ⟨(some 24), .indexAddr 7 (.t 22) (.t 23), none, 0, 0⟩,
 ⟨(some 25), .load 7 true (.t 24), none, 0, 0⟩,
 ⟨(some 9), .alloc [(.d (.sc (.int .u64 0))), (.d (.sc (.int .u8 0))), (.d (.sc (.int .i64 0))), (.d (.sc (.string ⟨#[]⟩))), (.own [] .full), (.d (.sc (.bool false))), (.d (.sc (.int .u64 0)))], none, 0, 0⟩,
 ⟨none, .store 7 (.t 9) (.t 25), none, 0, 0⟩] false)
 (.seq
 (.region [⟨(some 26), .mov (.t 2), none, 0, 0⟩,
 ⟨(some 27), .load 7 true (.t 8), none, 0, 0⟩,
 ⟨(some 28), .load 7 true (.t 9), none, 0, 0⟩,
 ⟨(some 29), .callv (.t 26) [(.t 27), (.t 28)], none, 0, 0⟩,
 ⟨(some 30), .un .not (.t 29), none, 0, 0⟩] false)
 (.cond (.t 30)
 (.seq
 (.region [⟨(some 6), .mov (.c (.d (.sc (.bool false)))), none, 0, 0⟩] false)
 .ret)
 .skip)))))
 (.region [⟨(some 31), .bin .add (.t 17) (.c (.d (.sc (.int .i64 1)))), none, 0, 0⟩,
 ⟨(some 17), .mov (.t 31), none, 0, 0⟩] false)))))))
 (.seq
 (.region [⟨(some 6), .mov (.c (.d (.sc (.bool true)))), none, 0, 0⟩] false)
 .ret)))), true⟩
/-- wreckage/differ.samePanic -/
def t63 : AFn := ⟨2, 24, [.t 4],
 (.seq
 (.region [⟨(some 2), .box (.t 0), none, 0, 0⟩,
 ⟨(some 3), .box (.t 1), none, 0, 0⟩,
 ⟨(some 4), .mov (.c (.d (.sc (.bool false)))), none, 0, 0⟩] false)
 (.seq
 (.region [⟨(some 5), .fieldAddr 0 (.t 2), none, 0, 0⟩,
 ⟨(some 6), .load 1 false (.t 5), none, 0, 0⟩,
 ⟨(some 7), .fieldAddr 0 (.t 3), none, 0, 0⟩,
 ⟨(some 8), .load 1 false (.t 7), none, 0, 0⟩,
 ⟨(some 9), .bin .eql (.t 6) (.t 8), none, 0, 0⟩,
 ⟨(some 10), .mov (.t 9), none, 0, 0⟩,
 ⟨(some 11), .fieldAddr 6 (.t 2), (some (10, true)), 0, 0⟩,
 ⟨(some 12), .load 1 false (.t 11), (some (10, true)), 0, 0⟩,
 ⟨(some 13), .fieldAddr 6 (.t 3), (some (10, true)), 0, 0⟩,
 ⟨(some 14), .load 1 false (.t 13), (some (10, true)), 0, 0⟩,
 ⟨(some 15), .bin .eql (.t 12) (.t 14), (some (10, true)), 0, 0⟩,
 ⟨(some 16), .pick (.t 10) (.t 15) (.c (.d (.sc (.bool false)))), none, 0, 0⟩,
 ⟨(some 17), .mov (.t 16), none, 0, 0⟩,
 ⟨(some 18), .fieldAddr 1 (.t 2), (some (17, true)), 0, 0⟩,
 ⟨(some 19), .load 5 true (.t 18), (some (17, true)), 0, 0⟩,
 ⟨(some 20), .fieldAddr 1 (.t 3), (some (17, true)), 0, 0⟩,
 ⟨(some 21), .load 5 true (.t 20), (some (17, true)), 0, 0⟩,
 ⟨(some 22), .callF 83 [(.t 19), (.t 21)], (some (17, true)), 0, 0⟩,
 ⟨(some 23), .pick (.t 17) (.t 22) (.c (.d (.sc (.bool false)))), none, 0, 0⟩,
 ⟨(some 4), .mov (.t 23), none, 0, 0⟩] false)
 .ret)), false⟩
/-- wreckage/differ.copyValue -/
def t68 : AFn := ⟨1, 25, [.cell 2 5 true],
 (.seq
 (.region [⟨(some 1), .box (.t 0), none, 0, 0⟩,
 ⟨(some 2), .alloc [(.d (.sc (.int .u8 0))), (.d (.sc (.int .i64 0))), (.d (.sc (.string ⟨#[]⟩))), (.own [] .full), (.d (.sc (.bool false)))], none, 0, 0⟩] false)
 (.seq
 (.region [⟨(some 5), .fieldAddr 3 (.t 1), none, 0, 0⟩,
 ⟨(some 6), .load 1 false (.t 5), none, 0, 0⟩,
 ⟨(some 7), .clone 5 64 (.t 6), none, 0, 1⟩,
 ⟨(some 8), .fieldAddr 3 (.t 1), none, 0, 0⟩,
 ⟨none, .store 1 (.t 8) (.t 7), none, 0, 0⟩] false)
 (.seq
 (.seq
 (.region [⟨(some 9), .fieldAddr 3 (.t 1), none, 0, 0⟩,
 ⟨(some 10), .load 1 false (.t 9), none, 0, 0⟩,
 ⟨(some 11), .len (.t 10), none, 0, 0⟩,
 ⟨(some 12), .mov (.c (.d (.sc (.int .i64 0)))), none, 0, 0⟩] false)
 (.block 0
 (.loop
 (.seq
 (.region [⟨(some 13), .bin .lss (.t 12) (.t 11), none, 0, 0⟩] false)
 (.seq
 (.cond (.t 13)
 .skip
 (.exit 0))
 (.seq
 (.block 1
 (.seq
 (.region [⟨(some 14), .mov (.t 12), none, 0, 0⟩,
 ⟨(some 15), .indexAddr 5 (.t 10) (.t 12), none, 0, 0⟩,
 ⟨(some 16), .load 5 true (.t 15), none, 0, 0⟩,
 ⟨(some 4), .alloc [(.d (.sc (.int .u8 0))), (.d (.sc (.int .i64 0))), (.d (.sc (.string ⟨#[]⟩))), (.own [] .full), (.d (.sc (.bool false)))], none, 0, 0⟩,
 ⟨(some 3), .mov (.t 14), none, 0, 0⟩,
 ⟨none, .store 5 (.t 4) (.t 16), none, 0, 0⟩] false)
 (.region [⟨(some 17), .fieldAddr 3 (.t 1), none, 0, 0⟩,
 ⟨(some 18), .load 1 false (.t 17), none, 1, 0⟩,
 ⟨(some 19), .mov (.t 3), none, 0, 0⟩,
 ⟨(some 20), .load 5 true (.t 4), none, 0, 0⟩,
 ⟨(some 21), .call 68 [(.t 20)], none, 8, 0⟩,
 ⟨(some 22), .indexAddr 5 (.t 18) (.t 19), none, 31, 0⟩,
 ⟨none, .store 5 (.t 22) (.t 21), none, 63, 0⟩] true)))
 (.region [⟨(some 23), .bin .add (.t 12) (.c (.d (.sc (.int .i64 1)))), none, 0, 0⟩,
 ⟨(some 12), .mov (.t 23), none, 0, 0⟩] false)))))))
 (.seq
 (.region [⟨(some 24), .load 5 true (.t 1), none, 0, 0⟩,
 ⟨none, .store 5 (.t 2) (.t 24), none, 0, 0⟩] false)
 .ret)))), false⟩
/-- slices.EqualFunc[[]wreckage/api.FrameState,[]wreckage/api.FrameState,wreckage/api.FrameState,wreckage/api.FrameState] -/
def t70 : AFn := ⟨3, 32, [.t 6],
 (.seq
 (.region [⟨(some 6), .mov (.c (.d (.sc (.bool false)))), none, 0, 0⟩] false)
 (.seq
 (.seq
 (.region [⟨(some 10), .mov (.t 0), none, 0, 0⟩,
 ⟨(some 11), .len (.t 10), none, 0, 0⟩,
 ⟨(some 12), .mov (.t 1), none, 0, 0⟩,
 ⟨(some 13), .len (.t 12), none, 0, 0⟩,
 ⟨(some 14), .bin .neq (.t 11) (.t 13), none, 0, 0⟩] false)
 (.cond (.t 14)
 (.seq
 (.region [⟨(some 6), .mov (.c (.d (.sc (.bool false)))), none, 0, 0⟩] false)
 .ret)
 .skip))
 (.seq
 (.seq
 (.region [⟨(some 15), .mov (.t 0), none, 0, 0⟩,
 ⟨(some 16), .len (.t 15), none, 0, 0⟩,
 ⟨(some 17), .mov (.c (.d (.sc (.int .i64 0)))), none, 0, 0⟩] false)
 (.block 0
 (.loop
 (.seq
 (.region [⟨(some 18), .bin .lss (.t 17) (.t 16), none, 0, 0⟩] false)
 (.seq
 (.cond (.t 18)
 .skip
 (.exit 0))
 (.seq
 (.block 1
 (.seq
 (.region [⟨(some 19), .mov (.t 17), none, 0, 0⟩,
 ⟨(some 20), .indexAddr 4 (.t 15) (.t 17), none, 0, 0⟩,
 ⟨(some 21), .load 4 true (.t 20), none, 0, 0⟩,
 ⟨(some 8), .alloc [(.d (.sc (.int .i64 0))), (.d (.sc (.int .i64 0))), (.d (.sc (.int .u64 0))), (.own [] .full)], none, 0, 0⟩,
 ⟨(some 7), .mov (.t 19), none, 0, 0⟩,
 ⟨none, .store 4 (.t 8) (.t 21), none, 0, 0⟩] false)
 (.seq
 (.region [⟨(some 22), .mov (.t 1), none, 0, 0⟩,
 ⟨(some 23), .mov (.t 7), none, 0, 0⟩,
 ⟨(some 24), .indexAddr 4 (.t 22) (.t 23), none, 0, 0⟩,
 ⟨(some 25), .load 4 true (.t 24), none, 0, 0⟩,
 ⟨(some 9), .alloc [(.d (.sc (.int .i64 0))), (.d (.sc (.int .i64 0))), (.d (.sc (.int .u64 0))), (.own [] .full)], none, 0, 0⟩,
 ⟨none, .store 4 (.t 9) (.t 25), none, 0, 0⟩] false)
 (.seq
 (.region [⟨(some 26), .mov (.t 2), none, 0, 0⟩,
 ⟨(some 27), .load 4 true (.t 8), none, 0, 0⟩,
 ⟨(some 28), .load 4 true (.t 9), none, 0, 0⟩,
 ⟨(some 29), .callv (.t 26) [(.t 27), (.t 28)], none, 0, 0⟩,
 ⟨(some 30), .un .not (.t 29), none, 0, 0⟩] false)
 (.cond (.t 30)
 (.seq
 (.region [⟨(some 6), .mov (.c (.d (.sc (.bool false)))), none, 0, 0⟩] false)
 .ret)
 .skip)))))
 (.region [⟨(some 31), .bin .add (.t 17) (.c (.d (.sc (.int .i64 1)))), none, 0, 0⟩,
 ⟨(some 17), .mov (.t 31), none, 0, 0⟩] false)))))))
 (.seq
 (.region [⟨(some 6), .mov (.c (.d (.sc (.bool true)))), none, 0, 0⟩] false)
 .ret)))), true⟩
/-- slices.ContainsFunc[[]wreckage/api.Edit,wreckage/api.Edit] -/
def t71 : AFn := ⟨2, 9, [.t 4],
 (.seq
 (.region [⟨(some 4), .mov (.c (.d (.sc (.bool false)))), none, 0, 0⟩] false)
 (.seq
 (.region [⟨(some 5), .mov (.t 0), none, 0, 0⟩,
 ⟨(some 6), .mov (.t 1), none, 0, 0⟩,
 ⟨(some 7), .callF 85 [(.t 5), (.t 6)], none, 0, 0⟩,
 ⟨(some 8), .bin .geq (.t 7) (.c (.d (.sc (.int .i64 0)))), none, 0, 0⟩,
 ⟨(some 4), .mov (.t 8), none, 0, 0⟩] false)
 .ret)), true⟩
/-- wreckage/differ.check$1 -/
def t72 : AFn := ⟨1, 6, [.t 2],
 (.seq
 (.region [⟨(some 1), .box (.t 0), none, 0, 0⟩,
 ⟨(some 2), .mov (.c (.d (.sc (.bool false)))), none, 0, 0⟩] false)
 (.seq
 (.region [⟨(some 3), .load 11 true (.t 1), none, 0, 0⟩,
 ⟨(some 4), .callF 21 [(.t 3)], none, 0, 0⟩,
 ⟨(some 5), .bin .neq (.t 4) (.c (.d (.sc (.int .i64 0)))), none, 0, 0⟩,
 ⟨(some 2), .mov (.t 5), none, 0, 0⟩] false)
 .ret)), false⟩
/-- slices.Concat[[]wreckage/api.FrameState,wreckage/api.FrameState] -/
def t74 : AFn := ⟨1, 36, [.t 2],
 (.seq
 (.region [⟨(some 2), .mov (.c (.own [] .full)), none, 0, 0⟩] false)
 (.seq
 (.region [⟨(some 3), .mov (.c (.d (.sc (.int .i64 0)))), none, 0, 0⟩] false)
 (.seq
 (.seq
 (.region [⟨(some 9), .mov (.t 0), none, 0, 0⟩,
 ⟨(some 10), .len (.t 9), none, 0, 0⟩,
 ⟨(some 11), .mov (.c (.d (.sc (.int .i64 0)))), none, 0, 0⟩] false)
 (.block 0
 (.loop
 (.seq
 (.region [⟨(some 12), .bin .lss (.t 11) (.t 10), none, 0, 0⟩] false)
 (.seq
 (.cond (.t 12)
 .skip
 (.exit 0))
 (.seq
 (.block 1
 (.seq
 (.region [⟨(some 13), .indexAddr 1 (.t 9) (.t 11), none, 0, 0⟩,
 ⟨(some 14), .load 1 false (.t 13), none, 0, 0⟩,
 ⟨(some 5), .mov (.t 14), none, 0, 0⟩] false)
 (.seq
 (.region [⟨(some 15), .mov (.t 3), none, 0, 0⟩,
 ⟨(some 16), .mov (.t 5), none, 0, 0⟩,
 ⟨(some 17), .len (.t 16), none, 0, 0⟩,
 ⟨(some 18), .bin .add (.t 15) (.t 17), none, 0, 0⟩,
 ⟨(some 3), .mov (.t 18), none, 0, 0⟩] false)
 (.seq
 (.region [⟨(some 19), .mov (.t 3), none, 0, 0⟩,
 ⟨(some 20), .bin .lss (.t 19) (.c (.d (.sc (.int .i64 0)))), none, 0, 0⟩] false)
 (.cond (.t 20)
 (.region [⟨(some 21), .bad, none, 0, 0⟩,
 ⟨none, .bad, none, 0, 0⟩] false)
 .skip)))))
 (.region [⟨(some 22), .bin .add (.t 11) (.c (.d (.sc (.int .i64 1)))), none, 0, 0⟩,
 ⟨(some 11), .mov (.t 22), none, 0, 0⟩] false)))))))
 (.seq
 (.region [⟨(some 23), .mov (.t 3), none, 0, 0⟩,
 ⟨(some 24), .call 86 [(.c (.own [] .full)), (.t 23)], none, 0, 262145⟩,
 ⟨(some 6), .mov (.t 24), none, 0, 0⟩] false)
 (.seq
 (.seq
 (.region [⟨(some 25), .mov (.t 0), none, 0, 0⟩,
 ⟨(some 26), .len (.t 25), none, 0, 0⟩,
 ⟨(some 27), .mov (.c (.d (.sc (.int .i64 0)))), none, 0, 0⟩] false)
 (.block 2
 (.loop
 (.seq
 (.region [⟨(some 28), .bin .lss (.t 27) (.t 26), none, 0, 0⟩] false)
 (.seq
 (.cond (.t 28)
 .skip
 (.exit 2))
 (.seq
 (.block 3
 (.seq
 (.region [⟨(some 29), .indexAddr 1 (.t 25) (.t 27), none, 0, 0⟩,
 ⟨(some 30), .load 1 false (.t 29), none, 0, 0⟩,
 ⟨(some 8), .mov (.t 30), none, 0, 0⟩] false)
 (.region [⟨(some 31), .mov (.t 6), none, 0, 0⟩,
 ⟨(some 32), .mov (.t 8), none, 0, 0⟩,
 ⟨(some 33), .append 4 48 (.t 31) (.t 32), none, 0, 0⟩,
 ⟨(some 6), .mov (.t 33), none, 0, 0⟩] false)))
 (.region [⟨(some 34), .bin .add (.t 27) (.c (.d (.sc (.int .i64 1)))), none, 0, 0⟩,
 ⟨(some 27), .mov (.t 34), none, 0, 0⟩] false)))))))
 (.seq
 (.region [⟨(some 35), .mov (.t 6), none, 0, 0⟩,
 ⟨(some 2), .mov (.t 35), none, 0, 0⟩] false)
 .ret)))))), false⟩
/-- slices.pdqsortOrdered[int] -/
def t75 : AFn := ⟨4, 134, [],
 (.seq
 (.region [⟨(some 8), .mov (.c (.d (.sc (.bool true)))), none, 0, 0⟩] false)
 (.seq
 (.region [⟨(some 9), .mov (.c (.d (.sc (.bool true)))), none, 0, 0⟩] false)
 (.block 0
 (.loop
 (.block 1
 (.seq
 (.region [⟨(some 19), .mov (.t 2), none, 0, 0⟩,
 ⟨(some 20), .mov (.t 1), none, 0, 0⟩,
 ⟨(some 21), .bin .sub (.t 19) (.t 20), none, 0, 0⟩,
 ⟨(some 10), .mov (.t 21), none, 0, 0⟩] false)
 (.seq
 (.seq
 (.region [⟨(some 22), .mov (.t 10), none, 0, 0⟩,
 ⟨(some 23), .bin .leq (.t 22) (.c (.d (.sc (.int .i64 12)))), none, 0, 0⟩] false)
 (.cond (.t 23)
 (.seq
 (.region [⟨(some 24), .mov (.t 0), none, 0, 0⟩,
 ⟨(some 25), .mov (.t 1), none, 0, 0⟩,
 ⟨(some 26), .mov (.t 2), none, 0, 0⟩,
 ⟨(some 27), .callF 87 [(.t 24), (.t 25), (.t 26)], none, 0, 0⟩] false)
 .ret)
 .skip))
 (.seq
 (.seq
 (.region [⟨(some 28), .mov (.t 3), none, 0, 0⟩,
 ⟨(some 29), .bin .eql (.t 28) (.c (.d (.sc (.int .i64 0)))), none, 0, 0⟩] false)
 (.cond (.t 29)
 (.seq
 (.region [⟨(some 30), .mov (.t 0), none, 0, 0⟩,
 ⟨(some 31), .mov (.t 1), none, 0, 0⟩,
 ⟨(some 32), .mov (.t 2), none, 0, 0⟩,
 ⟨(some 33), .callF 88 [(.t 30), (.t 31), (.t 32)], none, 0, 0⟩] false)
 .ret)
 .skip))
 (.seq
 (.seq
 (.region [⟨(some 34), .mov (.t 8), none, 0, 0⟩,
 ⟨(some 35), .un .not (.t 34), none, 0, 0⟩] false)
 (.cond (.t 35)
 (.seq
 (.region [⟨(some 36), .mov (.t 0), none, 0, 0⟩,
 ⟨(some 37), .mov (.t 1), none, 0, 0⟩,
 ⟨(some 38), .mov (.t 2), none, 0, 0⟩,
 ⟨(some 39), .callF 89 [(.t 36), (.t 37), (.t 38)], none, 0, 0⟩] false)
 (.region [⟨(some 40), .mov (.t 3), none, 0, 0⟩,
 ⟨(some 41), .bin .sub (.t 40) (.c (.d (.sc (.int .i64 1)))), none, 0, 0⟩,
 ⟨(some 3), .mov (.t 41), none, 0, 0⟩] false))
 .skip))
 (.seq
 (.region [⟨(some 43), .mov (.t 0), none, 0, 0⟩,
 ⟨(some 44), .mov (.t 1), none, 0, 0⟩,
 ⟨(some 45), .mov (.t 2), none, 0, 0⟩,
 ⟨(some 46), .callF 90 [(.t 43), (.t 44), (.t 45)], none, 0, 0⟩,
 ⟨(some 42), .mov (.t 46), none, 0, 0⟩,
 ⟨(some 47), .extract (.t 42) 0, none, 0, 0⟩,
 ⟨(some 48), .extract (.t 42) 1, none, 0, 0⟩,
 ⟨(some 11), .mov (.t 47), none, 0, 0⟩,
 ⟨(some 12), .mov (.t 48), none, 0, 0⟩] false)
 (.seq
 (.seq
 (.region [⟨(some 49), .mov (.t 12), none, 0, 0⟩,
 ⟨(some 50), .bin .eql (.t 49) (.c (.d (.sc (.int .i64 2)))), none, 0, 0⟩] false)
 (.cond (.t 50)
 (.seq
 (.region [⟨(some 51), .mov (.t 0), none, 0, 0⟩,
 ⟨(some 52), .mov (.t 1), none, 0, 0⟩,
 ⟨(some 53), .mov (.t 2), none, 0, 0⟩,
 ⟨(some 54), .callF 91 [(.t 51), (.t 52), (.t 53)], none, 0, 0⟩] false)
 (.seq
 (.region [⟨(some 55), .mov (.t 2), none, 0, 0⟩,
 ⟨(some 56), .bin .sub (.t 55) (.c (.d (.sc (.int .i64 1)))), none, 0, 0⟩,
 ⟨(some 57), .mov (.t 11), none, 0, 0⟩,
 ⟨(some 58), .mov (.t 1), none, 0, 0⟩,
 ⟨(some 59), .bin .sub (.t 57) (.t 58), none, 0, 0⟩,
 ⟨(some 60), .bin .sub (.t 56) (.t 59), none, 0, 0⟩,
 ⟨(some 11), .mov (.t 60), none, 0, 0⟩] false)
 (.region [⟨(some 12), .mov (.c (.d (.sc (.int .i64 1)))), none, 0, 0⟩] false)))
 .skip))
 (.seq
 (.seq
 (.region [⟨(some 61), .mov (.t 8), none, 0, 0⟩,
 ⟨(some 62), .mov (.t 61), none, 0, 0⟩,
 ⟨(some 63), .mov (.t 9), (some (62, true)), 0, 0⟩,
 ⟨(some 64), .pick (.t 62) (.t 63) (.c (.d (.sc (.bool false)))), none, 0, 0⟩,
 ⟨(some 65), .mov (.t 64), none, 0, 0⟩,
 ⟨(some 66), .mov (.t 12), (some (65, true)), 0, 0⟩,
 ⟨(some 67), .bin .eql (.t 66) (.c (.d (.sc (.int .i64 1)))), (some (65, true)), 0, 0⟩,
 ⟨(some 68), .pick (.t 65) (.t 67) (.c (.d (.sc (.bool false)))), none, 0, 0⟩] false)
 (.cond (.t 68)
 (.seq
 (.region [⟨(some 69), .mov (.t 0), none, 0, 0⟩,
 ⟨(some 70), .mov (.t 1), none, 0, 0⟩,
 ⟨(some 71), .mov (.t 2), none, 0, 0⟩,
 ⟨(some 72), .callF 92 [(.t 69), (.t 70), (.t 71)], none, 0, 0⟩] false)
 (.cond (.t 72)
 .ret
 .skip))
 .skip))
 (.seq
 (.seq
 (.region [⟨(some 73), .mov (.t 1), none, 0, 0⟩,
 ⟨(some 74), .bin .gtr (.t 73) (.c (.d (.sc (.int .i64 0)))), none, 1, 0⟩,
 ⟨(some 75), .mov (.t 74), none, 3, 0⟩,
 ⟨(some 76), .mov (.t 0), (some (75, true)), 7, 0⟩,
 ⟨(some 77), .mov (.t 1), (some (75, true)), 7, 0⟩,
 ⟨(some 78), .bin .sub (.t 77) (.c (.d (.sc (.int .i64 1)))), (some (75, true)), 23, 0⟩,
 ⟨(some 79), .indexAddr 1 (.t 76) (.t 78), (some (75, true)), 63, 0⟩,
 ⟨(some 80), .load 1 false (.t 79), (some (75, true)), 127, 0⟩,
 ⟨(some 81), .mov (.t 0), (some (75, true)), 7, 0⟩,
 ⟨(some 82), .mov (.t 11), (some (75, true)), 7, 0⟩,
 ⟨(some 83), .indexAddr 1 (.t 81) (.t 82), (some (75, true)), 775, 0⟩,
 ⟨(some 84), .load 1 false (.t 83), (some (75, true)), 1799, 0⟩,
 ⟨(some 85), .callF 93 [(.t 80), (.t 84)], (some (75, true)), 4095, 0⟩,
 ⟨(some 86), .un .not (.t 85), (some (75, true)), 8191, 0⟩,
 ⟨(some 87), .pick (.t 75) (.t 86) (.c (.d (.sc (.bool false)))), none, 16383, 0⟩] true)
 (.cond (.t 87)
 (.seq
 (.region [⟨(some 88), .mov (.t 0), none, 0, 0⟩,
 ⟨(some 89), .mov (.t 1), none, 0, 0⟩,
 ⟨(some 90), .mov (.t 2), none, 0, 0⟩,
 ⟨(some 91), .mov (.t 11), none, 0, 0⟩,
 ⟨(some 92), .callF 94 [(.t 88), (.t 89), (.t 90), (.t 91)], none, 0, 0⟩,
 ⟨(some 13), .mov (.t 92), none, 0, 0⟩] false)
 (.seq
 (.region [⟨(some 93), .mov (.t 13), none, 0, 0⟩,
 ⟨(some 1), .mov (.t 93), none, 0, 0⟩] false)
 (.exit 1)))
 .skip))
 (.seq
 (.region [⟨(some 95), .mov (.t 0), none, 0, 0⟩,
 ⟨(some 96), .mov (.t 1), none, 0, 0⟩,
 ⟨(some 97), .mov (.t 2), none, 0, 0⟩,
 ⟨(some 98), .mov (.t 11), none, 0, 0⟩,
 ⟨(some 99), .callF 95 [(.t 95), (.t 96), (.t 97), (.t 98)], none, 0, 0⟩,
 ⟨(some 94), .mov (.t 99), none, 0, 0⟩,
 ⟨(some 100), .extract (.t 94) 0, none, 0, 0⟩,
 ⟨(some 101), .extract (.t 94) 1, none, 0, 0⟩,
 ⟨(some 14), .mov (.t 100), none, 0, 0⟩,
 ⟨(some 15), .mov (.t 101), none, 0, 0⟩] false)
 (.seq
 (.region [⟨(some 102), .mov (.t 15), none, 0, 0⟩,
 ⟨(some 9), .mov (.t 102), none, 0, 0⟩] false)
 (.seq
 (.region [⟨(some 103), .mov (.t 14), none, 0, 0⟩,
 ⟨(some 104), .mov (.t 1), none, 0, 0⟩,
 ⟨(some 105), .bin .sub (.t 103) (.t 104), none, 0, 0⟩,
 ⟨(some 106), .mov (.t 2), none, 0, 0⟩,
 ⟨(some 107), .mov (.t 14), none, 0, 0⟩,
 ⟨(some 108), .bin .sub (.t 106) (.t 107), none, 0, 0⟩,
 ⟨(some 16), .mov (.t 105), none, 0, 0⟩,
 ⟨(some 17), .mov (.t 108), none, 0, 0⟩] false)
 (.seq
 (.region [⟨(some 109), .mov (.t 10), none, 0, 0⟩,
 ⟨(some 110), .bin .quo (.t 109) (.c (.d (.sc (.int .i64 8)))), none, 0, 0⟩,
 ⟨(some 18), .mov (.t 110), none, 0, 0⟩] false)
 (.seq
 (.region [⟨(some 111), .mov (.t 16), none, 0, 0⟩,
 ⟨(some 112), .mov (.t 17), none, 0, 0⟩,
 ⟨(some 113), .bin .lss (.t 111) (.t 112), none, 0, 0⟩] false)
 (.cond (.t 113)
 (.seq
 (.region [⟨(some 114), .mov (.t 16), none, 0, 0⟩,
 ⟨(some 115), .mov (.t 18), none, 0, 0⟩,
 ⟨(some 116), .bin .geq (.t 114) (.t 115), none, 0, 0⟩,
 ⟨(some 8), .mov (.t 116), none, 0, 0⟩] false)
 (.seq
 (.region [⟨(some 117), .mov (.t 0), none, 0, 0⟩,
 ⟨(some 118), .mov (.t 1), none, 0, 0⟩,
 ⟨(some 119), .mov (.t 14), none, 0, 0⟩,
 ⟨(some 120), .mov (.t 3), none, 0, 0⟩,
 ⟨(some 121), .callF 75 [(.t 117), (.t 118), (.t 119), (.t 120)], none, 0, 0⟩] false)
 (.region [⟨(some 122), .mov (.t 14), none, 0, 0⟩,
 ⟨(some 123), .bin .add (.t 122) (.c (.d (.sc (.int .i64 1)))), none, 0, 0⟩,
 ⟨(some 1), .mov (.t 123), none, 0, 0⟩] false)))
 (.seq
 (.region [⟨(some 124), .mov (.t 17), none, 0, 0⟩,
 ⟨(some 125), .mov (.t 18), none, 0, 0⟩,
 ⟨(some 126), .bin .geq (.t 124) (.t 125), none, 0, 0⟩,
 ⟨(some 8), .mov (.t 126), none, 0, 0⟩] false)
 (.seq
 (.region [⟨(some 127), .mov (.t 0), none, 0, 0⟩,
 ⟨(some 128), .mov (.t 14), none, 0, 0⟩,
 ⟨(some 129), .bin .add (.t 128) (.c (.d (.sc (.int .i64 1)))), none, 0, 0⟩,
 ⟨(some 130), .mov (.t 2), none, 0, 0⟩,
 ⟨(some 131), .mov (.t 3), none, 0, 0⟩,
 ⟨(some 132), .callF 75 [(.t 127), (.t 129), (.t 130), (.t 131)], none, 0, 0⟩] false)
 (.region [⟨(some 133), .mov (.t 14), none, 0, 0⟩,
 ⟨(some 2), .mov (.t 133), none, 0, 0⟩] false)))))))))))))))))))))), true⟩
/-- math/bits.Len -/
def t76 : AFn := ⟨1, 8, [.t 2],
 (.seq
 (.region [⟨(some 2), .mov (.c (.d (.sc (.int .i64 0)))), none, 0, 0⟩] false)
 (.seq
 (.cond (.c (.d (.sc (.bool false))))
 (.seq
 (.region [⟨(some 3), .mov (.t 0), none, 0, 0⟩,
 ⟨(some 4), .conv .u32 (.t 3), none, 0, 0⟩,
 ⟨(some 5), .callF 96 [(.t 4)], none, 0, 0⟩,
 ⟨(some 2), .mov (.t 5), none, 0, 0⟩] false)
 .ret)
 .skip)
 (.seq
 (.region [⟨(some 6), .mov (.t 0), none, 0, 0⟩,
 ⟨(some 7), .callF 97 [(.t 6)], none, 0, 0⟩,
 ⟨(some 2), .mov (.t 7), none, 0, 0⟩] false)
 .ret))), false⟩
/-- wreckage/wreckageref39.Same -/
def t77 : AFn := ⟨2, 24, [.t 4],
 (.seq
 (.region [⟨(some 2), .box (.t 0), none, 0, 0⟩,
 ⟨(some 3), .box (.t 1), none, 0, 0⟩,
 ⟨(some 4), .mov (.c (.d (.sc (.bool false)))), none, 0, 0⟩] false)
 (.seq
 (.region [⟨(some 5), .fieldAddr 0 (.t 2), none, 0, 0⟩,
 ⟨(some 6), .load 1 false (.t 5), none, 0, 0⟩,
 ⟨(some 7), .fieldAddr 0 (.t 3), none, 0, 0⟩,
 ⟨(some 8), .load 1 false (.t 7), none, 0, 0⟩,
 ⟨(some 9), .bin .eql (.t 6) (.t 8), none, 0, 0⟩,
 ⟨(some 10), .mov (.t 9), none, 0, 0⟩,
 ⟨(some 11), .fieldAddr 6 (.t 2), (some (10, true)), 0, 0⟩,
 ⟨(some 12), .load 1 false (.t 11), (some (10, true)), 0, 0⟩,
 ⟨(some 13), .fieldAddr 6 (.t 3), (some (10, true)), 0, 0⟩,
 ⟨(some 14), .load 1 false (.t 13), (some (10, true)), 0, 0⟩,
 ⟨(some 15), .bin .eql (.t 12) (.t 14), (some (10, true)), 0, 0⟩,
 ⟨(some 16), .pick (.t 10) (.t 15) (.c (.d (.sc (.bool false)))), none, 0, 0⟩,
 ⟨(some 17), .mov (.t 16), none, 0, 0⟩,
 ⟨(some 18), .fieldAddr 1 (.t 2), (some (17, true)), 0, 0⟩,
 ⟨(some 19), .load 5 true (.t 18), (some (17, true)), 0, 0⟩,
 ⟨(some 20), .fieldAddr 1 (.t 3), (some (17, true)), 0, 0⟩,
 ⟨(some 21), .load 5 true (.t 20), (some (17, true)), 0, 0⟩,
 ⟨(some 22), .callF 49 [(.t 19), (.t 21)], (some (17, true)), 0, 0⟩,
 ⟨(some 23), .pick (.t 17) (.t 22) (.c (.d (.sc (.bool false)))), none, 0, 0⟩,
 ⟨(some 4), .mov (.t 23), none, 0, 0⟩] false)
 .ret)), false⟩
/-- slices.IndexFunc[[]wreckage/api.RoutineState,wreckage/api.RoutineState] -/
def t80 : AFn := ⟨2, 19, [.t 4],
 (.seq
 (.region [⟨(some 4), .mov (.c (.d (.sc (.int .i64 0)))), none, 0, 0⟩] false)
 (.seq
 (.seq
 (.region [⟨(some 6), .mov (.t 0), none, 0, 0⟩,
 ⟨(some 7), .len (.t 6), none, 0, 0⟩,
 ⟨(some 8), .mov (.c (.d (.sc (.int .i64 0)))), none, 0, 0⟩] false)
 (.block 0
 (.loop
 (.seq
 (.region [⟨(some 9), .bin .lss (.t 8) (.t 7), none, 0, 0⟩] false)
 (.seq
 (.cond (.t 9)
 .skip
 (.exit 0))
 (.seq
 (.block 1
 (.seq
 (.region [⟨(some 10), .mov (.t 8), none, 0, 0⟩,
 ⟨(some 5), .mov (.t 10), none, 0, 0⟩] false)
 (.seq
 (.region [⟨(some 11), .mov (.t 1), none, 0, 0⟩,
 ⟨(some 12), .mov (.t 0), none, 0, 0⟩,
 ⟨(some 13), .mov (.t 5), none, 0, 0⟩,
 ⟨(some 14), .indexAddr 5 (.t 12) (.t 13), none, 0, 0⟩,
 ⟨(some 15), .load 5 true (.t 14), none, 0, 0⟩,
 ⟨(some 16), .callv (.t 11) [(.t 15)], none, 0, 0⟩] false)
 (.cond (.t 16)
 (.seq
 (.region [⟨(some 17), .mov (.t 5), none, 0, 0⟩,
 ⟨(some 4), .mov (.t 17), none, 0, 0⟩] false)
 .ret)
 .skip))))
 (.region [⟨(some 18), .bin .add (.t 8) (.c (.d (.sc (.int .i64 1)))), none, 0, 0⟩,
 ⟨(some 8), .mov (.t 18), none, 0, 0⟩] false)))))))
 (.seq
 (.region [⟨(some 4), .mov (.c (.d (.sc (.int .i64 (-1))))), none, 0, 0⟩] false)
 .ret))), true⟩
/-- slices.EqualFunc[[]wreckage/api.Local,[]wreckage/api.Local,wreckage/api.Local,wreckage/api.Local] -/
def t81 : AFn := ⟨3, 32, [.t 6],
 (.seq
 (.region [⟨(some 6), .mov (.c (.d (.sc (.bool false)))), none, 0, 0⟩] false)
 (.seq
 (.seq
 (.region [⟨(some 10), .mov (.t 0), none, 0, 0⟩,
 ⟨(some 11), .len (.t 10), none, 0, 0⟩,
 ⟨(some 12), .mov (.t 1), none, 0, 0⟩,
 ⟨(some 13), .len (.t 12), none, 0, 0⟩,
 ⟨(some 14), .bin .neq (.t 11) (.t 13), none, 0, 0⟩] false)
 (.cond (.t 14)
 (.seq
 (.region [⟨(some 6), .mov (.c (.d (.sc (.bool false)))), none, 0, 0⟩] false)
 .ret)
 .skip))
 (.seq
 (.seq
 (.region [⟨(some 15), .mov (.t 0), none, 0, 0⟩,
 ⟨(some 16), .len (.t 15), none, 0, 0⟩,
 ⟨(some 17), .mov (.c (.d (.sc (.int .i64 0)))), none, 0, 0⟩] false)
 (.block 0
 (.loop
 (.seq
 (.region [⟨(some 18), .bin .lss (.t 17) (.t 16), none, 0, 0⟩] false)
 (.seq
 (.cond (.t 18)
 .skip
 (.exit 0))
 (.seq
 (.block 1
 (.seq
 (.region [⟨(some 19), .mov (.t 17), none, 0, 0⟩,
 ⟨(some 20), .indexAddr 6 (.t 15) (.t 17), none, 0, 0⟩,
 ⟨(some 21), .load 6 true (.t 20), none, 0, 0⟩,
 ⟨(some 8), .alloc [(.d (.sc (.int .i64 0))), (.d (.sc (.int .u8 0))), (.d (.sc (.int .i64 0))), (.d (.sc (.string ⟨#[]⟩))), (.own [] .full), (.d (.sc (.bool false)))], none, 0, 0⟩,
 ⟨(some 7), .mov (.t 19), none, 0, 0⟩,
 ⟨none, .store 6 (.t 8) (.t 21), none, 0, 0⟩] false)
 (.seq
 (.region [⟨(some 22), .mov (.t 1), none, 0, 0⟩,
 ⟨(some 23), .mov (.t 7), none, 0, 0⟩,
 ⟨(some 24), .indexAddr 6 (.t 22) (.t 23), none, 0, 0⟩,
 ⟨(some 25), .load 6 true (.t 24), none, 0, 0⟩,
 ⟨(some 9), .alloc [(.d (.sc (.int .i64 0))), (.d (.sc (.int .u8 0))), (.d (.sc (.int .i64 0))), (.d (.sc (.string ⟨#[]⟩))), (.own [] .full), (.d (.sc (.bool false)))], none, 0, 0⟩,
 ⟨none, .store 6 (.t 9) (.t 25), none, 0, 0⟩] false)
 (.seq
 (.region [⟨(some 26), .mov (.t 2), none, 0, 0⟩,
 ⟨(some 27), .load 6 true (.t 8), none, 0, 0⟩,
 ⟨(some 28), .load 6 true (.t 9), none, 0, 0⟩,
 ⟨(some 29), .callv (.t 26) [(.t 27), (.t 28)], none, 0, 0⟩,
 ⟨(some 30), .un .not (.t 29), none, 0, 0⟩] false)
 (.cond (.t 30)
 (.seq
 (.region [⟨(some 6), .mov (.c (.d (.sc (.bool false)))), none, 0, 0⟩] false)
 .ret)
 .skip)))))
 (.region [⟨(some 31), .bin .add (.t 17) (.c (.d (.sc (.int .i64 1)))), none, 0, 0⟩,
 ⟨(some 17), .mov (.t 31), none, 0, 0⟩] false)))))))
 (.seq
 (.region [⟨(some 6), .mov (.c (.d (.sc (.bool true)))), none, 0, 0⟩] false)
 .ret)))), true⟩
/-- wreckage/differ.sameFrame$1 -/
def t82 : AFn := ⟨2, 17, [.t 4],
 (.seq
 (.region [⟨(some 2), .box (.t 0), none, 0, 0⟩,
 ⟨(some 3), .box (.t 1), none, 0, 0⟩,
 ⟨(some 4), .mov (.c (.d (.sc (.bool false)))), none, 0, 0⟩] false)
 (.seq
 (.region [⟨(some 5), .fieldAddr 0 (.t 2), none, 0, 0⟩,
 ⟨(some 6), .load 1 false (.t 5), none, 0, 0⟩,
 ⟨(some 7), .fieldAddr 0 (.t 3), none, 0, 0⟩,
 ⟨(some 8), .load 1 false (.t 7), none, 0, 0⟩,
 ⟨(some 9), .bin .eql (.t 6) (.t 8), none, 0, 0⟩,
 ⟨(some 10), .mov (.t 9), none, 0, 0⟩,
 ⟨(some 11), .fieldAddr 1 (.t 2), (some (10, true)), 0, 0⟩,
 ⟨(some 12), .load 5 true (.t 11), (some (10, true)), 0, 0⟩,
 ⟨(some 13), .fieldAddr 1 (.t 3), (some (10, true)), 0, 0⟩,
 ⟨(some 14), .load 5 true (.t 13), (some (10, true)), 0, 0⟩,
 ⟨(some 15), .callF 83 [(.t 12), (.t 14)], (some (10, true)), 0, 0⟩,
 ⟨(some 16), .pick (.t 10) (.t 15) (.c (.d (.sc (.bool false)))), none, 0, 0⟩,
 ⟨(some 4), .mov (.t 16), none, 0, 0⟩] false)
 .ret)), false⟩
/-- wreckage/differ.sameValue -/
def t83 : AFn := ⟨2, 38, [.t 4],
 (.seq
 (.region [⟨(some 2), .box (.t 0), none, 0, 0⟩,
 ⟨(some 3), .box (.t 1), none, 0, 0⟩,
 ⟨(some 4), .mov (.c (.d (.sc (.bool false)))), none, 0, 0⟩] false)
 (.seq
 (.region [⟨(some 5), .fieldAddr 0 (.t 2), none, 0, 0⟩,
 ⟨(some 6), .load 1 false (.t 5), none, 0, 0⟩,
 ⟨(some 7), .fieldAddr 0 (.t 3), none, 0, 0⟩,
 ⟨(some 8), .load 1 false (.t 7), none, 0, 0⟩,
 ⟨(some 9), .bin .eql (.t 6) (.t 8), none, 0, 0⟩,
 ⟨(some 10), .mov (.t 9), none, 0, 0⟩,
 ⟨(some 11), .fieldAddr 1 (.t 2), (some (10, true)), 0, 0⟩,
 ⟨(some 12), .load 1 false (.t 11), (some (10, true)), 0, 0⟩,
 ⟨(some 13), .fieldAddr 1 (.t 3), (some (10, true)), 0, 0⟩,
 ⟨(some 14), .load 1 false (.t 13), (some (10, true)), 0, 0⟩,
 ⟨(some 15), .bin .eql (.t 12) (.t 14), (some (10, true)), 0, 0⟩,
 ⟨(some 16), .pick (.t 10) (.t 15) (.c (.d (.sc (.bool false)))), none, 0, 0⟩,
 ⟨(some 17), .mov (.t 16), none, 0, 0⟩,
 ⟨(some 18), .fieldAddr 2 (.t 2), (some (17, true)), 0, 0⟩,
 ⟨(some 19), .load 1 false (.t 18), (some (17, true)), 0, 0⟩,
 ⟨(some 20), .fieldAddr 2 (.t 3), (some (17, true)), 0, 0⟩,
 ⟨(some 21), .load 1 false (.t 20), (some (17, true)), 0, 0⟩,
 ⟨(some 22), .bin .eql (.t 19) (.t 21), (some (17, true)), 0, 0⟩,
 ⟨(some 23), .pick (.t 17) (.t 22) (.c (.d (.sc (.bool false)))), none, 0, 0⟩,
 ⟨(some 24), .mov (.t 23), none, 0, 0⟩,
 ⟨(some 25), .fieldAddr 4 (.t 2), (some (24, true)), 0, 0⟩,
 ⟨(some 26), .load 1 false (.t 25), (some (24, true)), 0, 0⟩,
 ⟨(some 27), .fieldAddr 4 (.t 3), (some (24, true)), 0, 0⟩,
 ⟨(some 28), .load 1 false (.t 27), (some (24, true)), 0, 0⟩,
 ⟨(some 29), .eqb false (.t 26) (.t 28), (some (24, true)), 0, 0⟩,
 ⟨(some 30), .pick (.t 24) (.t 29) (.c (.d (.sc (.bool false)))), none, 0, 0⟩,
 ⟨(some 31), .mov (.t 30), none, 0, 0⟩,
 ⟨(some 32), .fieldAddr 3 (.t 2), (some (31, true)), 0, 0⟩,
 ⟨(some 33), .load 1 false (.t 32), (some (31, true)), 0, 0⟩,
 ⟨(some 34), .fieldAddr 3 (.t 3), (some (31, true)), 0, 0⟩,
 ⟨(some 35), .load 1 false (.t 34), (some (31, true)), 0, 0⟩,
 ⟨(some 36), .callF 98 [(.t 33), (.t 35), (.c (.clo 83 []))], (some (31, true)), 0, 0⟩,
 ⟨(some 37), .pick (.t 31) (.t 36) (.c (.d (.sc (.bool false)))), none, 0, 0⟩,
 ⟨(some 4), .mov (.t 37), none, 0, 0⟩] false)
 .ret)), false⟩
/-- slices.IndexFunc[[]wreckage/api.Edit,wreckage/api.Edit] -/
def t85 : AFn := ⟨2, 19, [.t 4],
 (.seq
 (.region [⟨(some 4), .mov (.c (.d (.sc (.int .i64 0)))), none, 0, 0⟩] false)
 (.seq
 (.seq
 (.region [⟨(some 6), .mov (.t 0), none, 0, 0⟩,
 ⟨(some 7), .len (.t 6), none, 0, 0⟩,
 ⟨(some 8), .mov (.c (.d (.sc (.int .i64 0)))), none, 0, 0⟩] false)
 (.block 0
 (.loop
 (.seq
 (.region [⟨(some 9), .bin .lss (.t 8) (.t 7), none, 0, 0⟩] false)
 (.seq
 (.cond (.t 9)
 .skip
 (.exit 0))
 (.seq
 (.block 1
 (.seq
 (.region [⟨(some 10), .mov (.t 8), none, 0, 0⟩,
 ⟨(some 5), .mov (.t 10), none, 0, 0⟩] false)
 (.seq
 (.region [⟨(some 11), .mov (.t 1), none, 0, 0⟩,
 ⟨(some 12), .mov (.t 0), none, 0, 0⟩,
 ⟨(some 13), .mov (.t 5), none, 0, 0⟩,
 ⟨(some 14), .indexAddr 11 (.t 12) (.t 13), none, 0, 0⟩,
 ⟨(some 15), .load 11 true (.t 14), none, 0, 0⟩,
 ⟨(some 16), .callv (.t 11) [(.t 15)], none, 0, 0⟩] false)
 (.cond (.t 16)
 (.seq
 (.region [⟨(some 17), .mov (.t 5), none, 0, 0⟩,
 ⟨(some 4), .mov (.t 17), none, 0, 0⟩] false)
 .ret)
 .skip))))
 (.region [⟨(some 18), .bin .add (.t 8) (.c (.d (.sc (.int .i64 1)))), none, 0, 0⟩,
 ⟨(some 8), .mov (.t 18), none, 0, 0⟩] false)))))))
 (.seq
 (.region [⟨(some 4), .mov (.c (.d (.sc (.int .i64 (-1))))), none, 0, 0⟩] false)
 .ret))), true⟩
/-- slices.Grow[[]wreckage/api.FrameState,wreckage/api.FrameState] -/
def t86 : AFn := ⟨2, 27, [.t 4],
 (.seq
 (.region [⟨(some 4), .mov (.c (.own [] .full)), none, 0, 0⟩] false)
 (.seq
 (.seq
 (.region [⟨(some 5), .mov (.t 1), none, 0, 0⟩,
 ⟨(some 6), .bin .lss (.t 5) (.c (.d (.sc (.int .i64 0)))), none, 0, 0⟩] false)
 (.cond (.t 6)
 (.region [⟨(some 7), .bad, none, 0, 0⟩,
 ⟨none, .bad, none, 0, 0⟩] false)
 .skip))
 (.seq
 (.seq
 (.region [⟨(some 8), .mov (.t 1), none, 0, 0⟩,
 ⟨(some 9), .mov (.t 0), none, 0, 0⟩,
 ⟨(some 10), .capF (.t 9), none, 0, 0⟩,
 ⟨(some 11), .mov (.t 0), none, 0, 0⟩,
 ⟨(some 12), .len (.t 11), none, 0, 0⟩,
 ⟨(some 13), .bin .sub (.t 10) (.t 12), none, 0, 0⟩,
 ⟨(some 14), .bin .sub (.t 8) (.t 13), none, 0, 0⟩,
 ⟨(some 1), .mov (.t 14), none, 0, 0⟩] false)
 (.seq
 (.region [⟨(some 15), .mov (.t 1), none, 0, 0⟩,
 ⟨(some 16), .bin .gtr (.t 15) (.c (.d (.sc (.int .i64 0)))), none, 0, 0⟩] false)
 (.cond (.t 16)
 (.region [⟨(some 17), .mov (.t 0), none, 0, 0⟩,
 ⟨(some 18), .mov (.t 0), none, 0, 0⟩,
 ⟨(some 19), .capF (.t 18), none, 0, 0⟩,
 ⟨(some 20), .slice 4 (.t 17) none (some (.t 19)) none, none, 0, 0⟩,
 ⟨(some 21), .mov (.t 1), none, 0, 0⟩,
 ⟨(some 22), .appendZ 4 48 [(.sc (.int .i64 0)), (.sc (.int .i64 0)), (.sc (.int .u64 0)), (.sl [])] (.t 20) (.t 21), none, 0, 1⟩,
 ⟨(some 23), .mov (.t 0), none, 0, 0⟩,
 ⟨(some 24), .len (.t 23), none, 0, 0⟩,
 ⟨(some 25), .slice 4 (.t 22) none (some (.t 24)) none, none, 0, 0⟩,
 ⟨(some 0), .mov (.t 25), none, 0, 0⟩] false)
 .skip)))
 (.seq
 (.region [⟨(some 26), .mov (.t 0), none, 0, 0⟩,
 ⟨(some 4), .mov (.t 26), none, 0, 0⟩] false)
 .ret)))), true⟩
/-- slices.insertionSortOrdered[int] -/
def t87 : AFn := ⟨3, 49, [],
 (.seq
 (.region [⟨(some 8), .mov (.t 1), none, 0, 0⟩,
 ⟨(some 9), .bin .add (.t 8) (.c (.d (.sc (.int .i64 1)))), none, 0, 0⟩,
 ⟨(some 6), .mov (.t 9), none, 0, 0⟩] false)
 (.block 0
 (.loop
 (.seq
 (.seq
 (.region [⟨(some 10), .mov (.t 6), none, 0, 0⟩,
 ⟨(some 11), .mov (.t 2), none, 0, 0⟩,
 ⟨(some 12), .bin .lss (.t 10) (.t 11), none, 0, 0⟩] false)
 (.cond (.t 12)
 .skip
 (.exit 0)))
 (.seq
 (.block 1
 (.seq
 (.region [⟨(some 15), .mov (.t 6), none, 0, 0⟩,
 ⟨(some 7), .mov (.t 15), none, 0, 0⟩] false)
 (.block 2
 (.loop
 (.seq
 (.seq
 (.region [⟨(some 16), .mov (.t 7), none, 0, 0⟩,
 ⟨(some 17), .mov (.t 1), none, 0, 0⟩,
 ⟨(some 18), .bin .gtr (.t 16) (.t 17), none, 3, 0⟩,
 ⟨(some 19), .mov (.t 18), none, 7, 0⟩,
 ⟨(some 20), .mov (.t 0), (some (19, true)), 15, 0⟩,
 ⟨(some 21), .mov (.t 7), (some (19, true)), 15, 0⟩,
 ⟨(some 22), .indexAddr 1 (.t 20) (.t 21), (some (19, true)), 63, 0⟩,
 ⟨(some 23), .load 1 false (.t 22), (some (19, true)), 127, 0⟩,
 ⟨(some 24), .mov (.t 0), (some (19, true)), 15, 0⟩,
 ⟨(some 25), .mov (.t 7), (some (19, true)), 15, 0⟩,
 ⟨(some 26), .bin .sub (.t 25) (.c (.d (.sc (.int .i64 1)))), (some (19, true)), 527, 0⟩,
 ⟨(some 27), .indexAddr 1 (.t 24) (.t 26), (some (19, true)), 1807, 0⟩,
 ⟨(some 28), .load 1 false (.t 27), (some (19, true)), 3855, 0⟩,
 ⟨(some 29), .callF 93 [(.t 23), (.t 28)], (some (19, true)), 8191, 0⟩,
 ⟨(some 30), .pick (.t 19) (.t 29) (.c (.d (.sc (.bool false)))), none, 16383, 0⟩] true)
 (.cond (.t 30)
 .skip
 (.exit 2)))
 (.seq
 (.block 3
 (.region [⟨(some 33), .mov (.t 0), none, 0, 0⟩,
 ⟨(some 34), .mov (.t 7), none, 0, 0⟩,
 ⟨(some 35), .mov (.t 0), none, 0, 0⟩,
 ⟨(some 36), .mov (.t 7), none, 0, 0⟩,
 ⟨(some 37), .bin .sub (.t 36) (.c (.d (.sc (.int .i64 1)))), none, 8, 0⟩,
 ⟨(some 38), .mov (.t 0), none, 0, 0⟩,
 ⟨(some 39), .mov (.t 7), none, 0, 0⟩,
 ⟨(some 40), .bin .sub (.t 39) (.c (.d (.sc (.int .i64 1)))), none, 64, 0⟩,
 ⟨(some 41), .indexAddr 1 (.t 38) (.t 40), none, 224, 0⟩,
 ⟨(some 42), .load 1 false (.t 41), none, 480, 0⟩,
 ⟨(some 43), .mov (.t 0), none, 0, 0⟩,
 ⟨(some 44), .mov (.t 7), none, 0, 0⟩,
 ⟨(some 45), .indexAddr 1 (.t 43) (.t 44), none, 3072, 0⟩,
 ⟨(some 46), .load 1 false (.t 45), none, 7168, 0⟩,
 ⟨(some 47), .indexAddr 1 (.t 33) (.t 34), none, 16355, 0⟩,
 ⟨none, .store 1 (.t 47) (.t 42), none, 32739, 0⟩,
 ⟨(some 48), .indexAddr 1 (.t 35) (.t 37), none, 65535, 0⟩,
 ⟨none, .store 1 (.t 48) (.t 46), none, 131071, 0⟩] true))
 (.region [⟨(some 31), .mov (.t 7), none, 0, 0⟩,
 ⟨(some 32), .bin .sub (.t 31) (.c (.d (.sc (.int .i64 1)))), none, 0, 0⟩,
 ⟨(some 7), .mov (.t 32), none, 0, 0⟩] false)))))))
 (.region [⟨(some 13), .mov (.t 6), none, 0, 0⟩,
 ⟨(some 14), .bin .add (.t 13) (.c (.d (.sc (.int .i64 1)))), none, 0, 0⟩,
 ⟨(some 6), .mov (.t 14), none, 0, 0⟩] false)))))), true⟩
/-- slices.heapSortOrdered[int] -/
def t88 : AFn := ⟨3, 56, [],
 (.seq
 (.region [⟨(some 11), .mov (.t 1), none, 0, 0⟩,
 ⟨(some 6), .mov (.t 11), none, 0, 0⟩] false)
 (.seq
 (.region [⟨(some 7), .mov (.c (.d (.sc (.int .i64 0)))), none, 0, 0⟩] false)
 (.seq
 (.region [⟨(some 12), .mov (.t 2), none, 0, 0⟩,
 ⟨(some 13), .mov (.t 1), none, 0, 0⟩,
 ⟨(some 14), .bin .sub (.t 12) (.t 13), none, 0, 0⟩,
 ⟨(some 8), .mov (.t 14), none, 0, 0⟩] false)
 (.seq
 (.seq
 (.region [⟨(some 15), .mov (.t 8), none, 0, 0⟩,
 ⟨(some 16), .bin .sub (.t 15) (.c (.d (.sc (.int .i64 1)))), none, 0, 0⟩,
 ⟨(some 17), .bin .quo (.t 16) (.c (.d (.sc (.int .i64 2)))), none, 0, 0⟩,
 ⟨(some 9), .mov (.t 17), none, 0, 0⟩] false)
 (.block 0
 (.loop
 (.seq
 (.seq
 (.region [⟨(some 18), .mov (.t 9), none, 0, 0⟩,
 ⟨(some 19), .bin .geq (.t 18) (.c (.d (.sc (.int .i64 0)))), none, 0, 0⟩] false)
 (.cond (.t 19)
 .skip
 (.exit 0)))
 (.seq
 (.block 1
 (.region [⟨(some 22), .mov (.t 0), none, 0, 0⟩,
 ⟨(some 23), .mov (.t 9), none, 0, 0⟩,
 ⟨(some 24), .mov (.t 8), none, 0, 0⟩,
 ⟨(some 25), .mov (.t 6), none, 0, 0⟩,
 ⟨(some 26), .callF 99 [(.t 22), (.t 23), (.t 24), (.t 25)], none, 0, 0⟩] false))
 (.region [⟨(some 20), .mov (.t 9), none, 0, 0⟩,
 ⟨(some 21), .bin .sub (.t 20) (.c (.d (.sc (.int .i64 1)))), none, 0, 0⟩,
 ⟨(some 9), .mov (.t 21), none, 0, 0⟩] false))))))
 (.seq
 (.region [⟨(some 27), .mov (.t 8), none, 0, 0⟩,
 ⟨(some 28), .bin .sub (.t 27) (.c (.d (.sc (.int .i64 1)))), none, 0, 0⟩,
 ⟨(some 10), .mov (.t 28), none, 0, 0⟩] false)
 (.block 2
 (.loop
 (.seq
 (.seq
 (.region [⟨(some 29), .mov (.t 10), none, 0, 0⟩,
 ⟨(some 30), .bin .geq (.t 29) (.c (.d (.sc (.int .i64 0)))), none, 0, 0⟩] false)
 (.cond (.t 30)
 .skip
 (.exit 2)))
 (.seq
 (.block 3
 (.seq
 (.region [⟨(some 33), .mov (.t 0), none, 0, 0⟩,
 ⟨(some 34), .mov (.t 6), none, 0, 0⟩,
 ⟨(some 35), .mov (.t 0), none, 0, 0⟩,
 ⟨(some 36), .mov (.t 6), none, 0, 0⟩,
 ⟨(some 37), .mov (.t 10), none, 0, 0⟩,
 ⟨(some 38), .bin .add (.t 36) (.t 37), none, 24, 0⟩,
 ⟨(some 39), .mov (.t 0), none, 0, 0⟩,
 ⟨(some 40), .mov (.t 6), none, 0, 0⟩,
 ⟨(some 41), .mov (.t 10), none, 0, 0⟩,
 ⟨(some 42), .bin .add (.t 40) (.t 41), none, 384, 0⟩,
 ⟨(some 43), .indexAddr 1 (.t 39) (.t 42), none, 960, 0⟩,
 ⟨(some 44), .load 1 false (.t 43), none, 1984, 0⟩,
 ⟨(some 45), .mov (.t 0), none, 0, 0⟩,
 ⟨(some 46), .mov (.t 6), none, 0, 0⟩,
 ⟨(some 47), .indexAddr 1 (.t 45) (.t 46), none, 12288, 0⟩,
 ⟨(some 48), .load 1 false (.t 47), none, 28672, 0⟩,
 ⟨(some 49), .indexAddr 1 (.t 33) (.t 34), none, 65475, 0⟩,
 ⟨none, .store 1 (.t 49) (.t 44), none, 131011, 0⟩,
 ⟨(some 50), .indexAddr 1 (.t 35) (.t 38), none, 262143, 0⟩,
 ⟨none, .store 1 (.t 50) (.t 48), none, 524287, 0⟩] true)
 (.region [⟨(some 51), .mov (.t 0), none, 0, 0⟩,
 ⟨(some 52), .mov (.t 7), none, 0, 0⟩,
 ⟨(some 53), .mov (.t 10), none, 0, 0⟩,
 ⟨(some 54), .mov (.t 6), none, 0, 0⟩,
 ⟨(some 55), .callF 99 [(.t 51), (.t 52), (.t 53), (.t 54)], none, 0, 0⟩] false)))
 (.region [⟨(some 31), .mov (.t 10), none, 0, 0⟩,
 ⟨(some 32), .bin .sub (.t 31) (.c (.d (.sc (.int .i64 1)))), none, 0, 0⟩,
 ⟨(some 10), .mov (.t 32), none, 0, 0⟩] false)))))))))), true⟩
/-- slices.breakPatternsOrdered[int] -/
def t89 : AFn := ⟨3, 65, [],
 (.seq
 (.region [⟨(some 11), .mov (.t 2), none, 0, 0⟩,
 ⟨(some 12), .mov (.t 1), none, 0, 0⟩,
 ⟨(some 13), .bin .sub (.t 11) (.t 12), none, 0, 0⟩,
 ⟨(some 6), .mov (.t 13), none, 0, 0⟩] false)
 (.seq
 (.region [⟨(some 14), .mov (.t 6), none, 0, 0⟩,
 ⟨(some 15), .bin .geq (.t 14) (.c (.d (.sc (.int .i64 8)))), none, 0, 0⟩] false)
 (.cond (.t 15)
 (.seq
 (.region [⟨(some 16), .mov (.t 6), none, 0, 0⟩,
 ⟨(some 17), .conv .u64 (.t 16), none, 0, 0⟩,
 ⟨(some 7), .alloc [(.d (.sc (.int .u64 0)))], none, 0, 0⟩,
 ⟨none, .store 1 (.t 7) (.t 17), none, 0, 0⟩] false)
 (.seq
 (.region [⟨(some 18), .mov (.t 6), none, 0, 0⟩,
 ⟨(some 19), .callF 100 [(.t 18)], none, 0, 0⟩,
 ⟨(some 8), .mov (.t 19), none, 0, 0⟩] false)
 (.seq
 (.region [⟨(some 20), .mov (.t 1), none, 0, 0⟩,
 ⟨(some 21), .mov (.t 6), none, 0, 0⟩,
 ⟨(some 22), .bin .quo (.t 21) (.c (.d (.sc (.int .i64 4)))), none, 0, 0⟩,
 ⟨(some 23), .bin .mul (.t 22) (.c (.d (.sc (.int .i64 2)))), none, 0, 0⟩,
 ⟨(some 24), .bin .add (.t 20) (.t 23), none, 0, 0⟩,
 ⟨(some 25), .bin .sub (.t 24) (.c (.d (.sc (.int .i64 1)))), none, 0, 0⟩,
 ⟨(some 9), .mov (.t 25), none, 0, 0⟩] false)
 (.block 0
 (.loop
 (.seq
 (.seq
 (.region [⟨(some 26), .mov (.t 9), none, 0, 0⟩,
 ⟨(some 27), .mov (.t 1), none, 0, 0⟩,
 ⟨(some 28), .mov (.t 6), none, 0, 0⟩,
 ⟨(some 29), .bin .quo (.t 28) (.c (.d (.sc (.int .i64 4)))), none, 0, 0⟩,
 ⟨(some 30), .bin .mul (.t 29) (.c (.d (.sc (.int .i64 2)))), none, 0, 0⟩,
 ⟨(some 31), .bin .add (.t 27) (.t 30), none, 0, 0⟩,
 ⟨(some 32), .bin .add (.t 31) (.c (.d (.sc (.int .i64 1)))), none, 0, 0⟩,
 ⟨(some 33), .bin .leq (.t 26) (.t 32), none, 0, 0⟩] false)
 (.cond (.t 33)
 .skip
 (.exit 0)))
 (.seq
 (.block 1
 (.seq
 (.region [⟨(some 36), .callF 101 [(.t 7)], none, 0, 0⟩,
 ⟨(some 37), .mov (.t 8), none, 0, 0⟩,
 ⟨(some 38), .bin .sub (.t 37) (.c (.d (.sc (.int .u64 1)))), none, 0, 0⟩,
 ⟨(some 39), .bin .and (.t 36) (.t 38), none, 0, 0⟩,
 ⟨(some 40), .conv .i64 (.t 39), none, 0, 0⟩,
 ⟨(some 10), .mov (.t 40), none, 0, 0⟩] false)
 (.seq
 (.seq
 (.region [⟨(some 41), .mov (.t 10), none, 0, 0⟩,
 ⟨(some 42), .mov (.t 6), none, 0, 0⟩,
 ⟨(some 43), .bin .geq (.t 41) (.t 42), none, 0, 0⟩] false)
 (.cond (.t 43)
 (.region [⟨(some 44), .mov (.t 10), none, 0, 0⟩,
 ⟨(some 45), .mov (.t 6), none, 0, 0⟩,
 ⟨(some 46), .bin .sub (.t 44) (.t 45), none, 0, 0⟩,
 ⟨(some 10), .mov (.t 46), none, 0, 0⟩] false)
 .skip))
 (.region [⟨(some 47), .mov (.t 0), none, 0, 0⟩,
 ⟨(some 48), .mov (.t 9), none, 0, 0⟩,
 ⟨(some 49), .mov (.t 0), none, 0, 0⟩,
 ⟨(some 50), .mov (.t 1), none, 0, 0⟩,
 ⟨(some 51), .mov (.t 10), none, 0, 0⟩,
 ⟨(some 52), .bin .add (.t 50) (.t 51), none, 24, 0⟩,
 ⟨(some 53), .mov (.t 0), none, 0, 0⟩,
 ⟨(some 54), .mov (.t 1), none, 0, 0⟩,
 ⟨(some 55), .mov (.t 10), none, 0, 0⟩,
 ⟨(some 56), .bin .add (.t 54) (.t 55), none, 384, 0⟩,
 ⟨(some 57), .indexAddr 1 (.t 53) (.t 56), none, 960, 0⟩,
 ⟨(some 58), .load 1 false (.t 57), none, 1984, 0⟩,
 ⟨(some 59), .mov (.t 0), none, 0, 0⟩,
 ⟨(some 60), .mov (.t 9), none, 0, 0⟩,
 ⟨(some 61), .indexAddr 1 (.t 59) (.t 60), none, 12288, 0⟩,
 ⟨(some 62), .load 1 false (.t 61), none, 28672, 0⟩,
 ⟨(some 63), .indexAddr 1 (.t 47) (.t 48), none, 65475, 0⟩,
 ⟨none, .store 1 (.t 63) (.t 58), none, 131011, 0⟩,
 ⟨(some 64), .indexAddr 1 (.t 49) (.t 52), none, 262143, 0⟩,
 ⟨none, .store 1 (.t 64) (.t 62), none, 524287, 0⟩] true))))
 (.region [⟨(some 34), .mov (.t 9), none, 0, 0⟩,
 ⟨(some 35), .bin .add (.t 34) (.c (.d (.sc (.int .i64 1)))), none, 0, 0⟩,
 ⟨(some 9), .mov (.t 35), none, 0, 0⟩] false))))))))
 .skip))), true⟩
/-- slices.choosePivotOrdered[int] -/
def t90 : AFn := ⟨3, 57, [.t 6, .t 7],
 (.seq
 (.region [⟨(some 6), .mov (.c (.d (.sc (.int .i64 0)))), none, 0, 0⟩,
 ⟨(some 7), .mov (.c (.d (.sc (.int .i64 0)))), none, 0, 0⟩] false)
 (.seq
 (.region [⟨(some 13), .mov (.t 2), none, 0, 0⟩,
 ⟨(some 14), .mov (.t 1), none, 0, 0⟩,
 ⟨(some 15), .bin .sub (.t 13) (.t 14), none, 0, 0⟩,
 ⟨(some 8), .mov (.t 15), none, 0, 0⟩] false)
 (.seq
 (.region [⟨(some 9), .alloc [(.d (.sc (.int .i64 0)))], none, 0, 0⟩] false)
 (.seq
 (.region [⟨(some 16), .mov (.t 1), none, 0, 0⟩,
 ⟨(some 17), .mov (.t 8), none, 0, 0⟩,
 ⟨(some 18), .bin .quo (.t 17) (.c (.d (.sc (.int .i64 4)))), none, 0, 0⟩,
 ⟨(some 19), .bin .mul (.t 18) (.c (.d (.sc (.int .i64 1)))), none, 0, 0⟩,
 ⟨(some 20), .bin .add (.t 16) (.t 19), none, 0, 0⟩,
 ⟨(some 10), .mov (.t 20), none, 0, 0⟩] false)
 (.seq
 (.region [⟨(some 21), .mov (.t 1), none, 0, 0⟩,
 ⟨(some 22), .mov (.t 8), none, 0, 0⟩,
 ⟨(some 23), .bin .quo (.t 22) (.c (.d (.sc (.int .i64 4)))), none, 0, 0⟩,
 ⟨(some 24), .bin .mul (.t 23) (.c (.d (.sc (.int .i64 2)))), none, 0, 0⟩,
 ⟨(some 25), .bin .add (.t 21) (.t 24), none, 0, 0⟩,
 ⟨(some 11), .mov (.t 25), none, 0, 0⟩] false)
 (.seq
 (.region [⟨(some 26), .mov (.t 1), none, 0, 0⟩,
 ⟨(some 27), .mov (.t 8), none, 0, 0⟩,
 ⟨(some 28), .bin .quo (.t 27) (.c (.d (.sc (.int .i64 4)))), none, 0, 0⟩,
 ⟨(some 29), .bin .mul (.t 28) (.c (.d (.sc (.int .i64 3)))), none, 0, 0⟩,
 ⟨(some 30), .bin .add (.t 26) (.t 29), none, 0, 0⟩,
 ⟨(some 12), .mov (.t 30), none, 0, 0⟩] false)
 (.seq
 (.seq
 (.region [⟨(some 31), .mov (.t 8), none, 0, 0⟩,
 ⟨(some 32), .bin .geq (.t 31) (.c (.d (.sc (.int .i64 8)))), none, 0, 0⟩] false)
 (.cond (.t 32)
 (.seq
 (.seq
 (.region [⟨(some 33), .mov (.t 8), none, 0, 0⟩,
 ⟨(some 34), .bin .geq (.t 33) (.c (.d (.sc (.int .i64 50)))), none, 0, 0⟩] false)
 (.cond (.t 34)
 (.seq
 (.region [⟨(some 35), .mov (.t 0), none, 0, 0⟩,
 ⟨(some 36), .mov (.t 10), none, 0, 0⟩,
 ⟨(some 37), .callF 102 [(.t 35), (.t 36), (.t 9)], none, 0, 0⟩,
 ⟨(some 10), .mov (.t 37), none, 0, 0⟩] false)
 (.seq
 (.region [⟨(some 38), .mov (.t 0), none, 0, 0⟩,
 ⟨(some 39), .mov (.t 11), none, 0, 0⟩,
 ⟨(some 40), .callF 102 [(.t 38), (.t 39), (.t 9)], none, 0, 0⟩,
 ⟨(some 11), .mov (.t 40), none, 0, 0⟩] false)
 (.region [⟨(some 41), .mov (.t 0), none, 0, 0⟩,
 ⟨(some 42), .mov (.t 12), none, 0, 0⟩,
 ⟨(some 43), .callF 102 [(.t 41), (.t 42), (.t 9)], none, 0, 0⟩,
 ⟨(some 12), .mov (.t 43), none, 0, 0⟩] false)))
 .skip))
 (.region [⟨(some 44), .mov (.t 0), none, 0, 0⟩,
 ⟨(some 45), .mov (.t 10), none, 0, 0⟩,
 ⟨(some 46), .mov (.t 11), none, 0, 0⟩,
 ⟨(some 47), .mov (.t 12), none, 0, 0⟩,
 ⟨(some 48), .callF 103 [(.t 44), (.t 45), (.t 46), (.t 47), (.t 9)], none, 0, 0⟩,
 ⟨(some 11), .mov (.t 48), none, 0, 0⟩] false))
 .skip))
 (.seq
 (.region [⟨(some 49), .load 1 false (.t 9), none, 0, 0⟩] false)
 (.block 0
 (.seq
 (.region [⟨(some 52), .bin .eql (.t 49) (.c (.d (.sc (.int .i64 0)))), none, 0, 0⟩,
 ⟨(some 51), .mov (.t 52), none, 0, 0⟩] false)
 (.cond (.t 51)
 (.seq
 (.region [⟨(some 53), .mov (.t 11), none, 0, 0⟩,
 ⟨(some 6), .mov (.t 53), none, 0, 0⟩,
 ⟨(some 7), .mov (.c (.d (.sc (.int .i64 1)))), none, 0, 0⟩] false)
 .ret)
 (.seq
 (.region [⟨(some 55), .bin .eql (.t 49) (.c (.d (.sc (.int .i64 12)))), none, 0, 0⟩,
 ⟨(some 54), .mov (.t 55), none, 0, 0⟩] false)
 (.cond (.t 54)
 (.seq
 (.region [⟨(some 56), .mov (.t 11), none, 0, 0⟩,
 ⟨(some 6), .mov (.t 56), none, 0, 0⟩,
 ⟨(some 7), .mov (.c (.d (.sc (.int .i64 2)))), none, 0, 0⟩] false)
 .ret)
 (.seq
 (.region [⟨(some 50), .mov (.t 11), none, 0, 0⟩,
 ⟨(some 6), .mov (.t 50), none, 0, 0⟩,
 ⟨(some 7), .mov (.c (.d (.sc (.int .i64 0)))), none, 0, 0⟩] false)
 .ret)))))))))))))), true⟩
/-- slices.reverseRangeOrdered[int] -/
def t91 : AFn := ⟨3, 32, [],
 (.seq
 (.region [⟨(some 8), .mov (.t 1), none, 0, 0⟩,
 ⟨(some 6), .mov (.t 8), none, 0, 0⟩] false)
 (.seq
 (.region [⟨(some 9), .mov (.t 2), none, 0, 0⟩,
 ⟨(some 10), .bin .sub (.t 9) (.c (.d (.sc (.int .i64 1)))), none, 0, 0⟩,
 ⟨(some 7), .mov (.t 10), none, 0, 0⟩] false)
 (.block 0
 (.loop
 (.seq
 (.seq
 (.region [⟨(some 11), .mov (.t 6), none, 0, 0⟩,
 ⟨(some 12), .mov (.t 7), none, 0, 0⟩,
 ⟨(some 13), .bin .lss (.t 11) (.t 12), none, 0, 0⟩] false)
 (.cond (.t 13)
 .skip
 (.exit 0)))
 (.block 1
 (.seq
 (.region [⟨(some 14), .mov (.t 0), none, 0, 0⟩,
 ⟨(some 15), .mov (.t 6), none, 0, 0⟩,
 ⟨(some 16), .mov (.t 0), none, 0, 0⟩,
 ⟨(some 17), .mov (.t 7), none, 0, 0⟩,
 ⟨(some 18), .mov (.t 0), none, 0, 0⟩,
 ⟨(some 19), .mov (.t 7), none, 0, 0⟩,
 ⟨(some 20), .indexAddr 1 (.t 18) (.t 19), none, 48, 0⟩,
 ⟨(some 21), .load 1 false (.t 20), none, 112, 0⟩,
 ⟨(some 22), .mov (.t 0), none, 0, 0⟩,
 ⟨(some 23), .mov (.t 6), none, 0, 0⟩,
 ⟨(some 24), .indexAddr 1 (.t 22) (.t 23), none, 768, 0⟩,
 ⟨(some 25), .load 1 false (.t 24), none, 1792, 0⟩,
 ⟨(some 26), .indexAddr 1 (.t 14) (.t 15), none, 4083, 0⟩,
 ⟨none, .store 1 (.t 26) (.t 21), none, 8179, 0⟩,
 ⟨(some 27), .indexAddr 1 (.t 16) (.t 17), none, 16383, 0⟩,
 ⟨none, .store 1 (.t 27) (.t 25), none, 32767, 0⟩] true)
 (.seq
 (.region [⟨(some 28), .mov (.t 6), none, 0, 0⟩,
 ⟨(some 29), .bin .add (.t 28) (.c (.d (.sc (.int .i64 1)))), none, 0, 0⟩,
 ⟨(some 6), .mov (.t 29), none, 0, 0⟩] false)
 (.region [⟨(some 30), .mov (.t 7), none, 0, 0⟩,
 ⟨(some 31), .bin .sub (.t 30) (.c (.d (.sc (.int .i64 1)))), none, 0, 0⟩,
 ⟨(some 7), .mov (.t 31), none, 0, 0⟩] false))))))))), true⟩
/-- slices.partialInsertionSortOrdered[int] -/
def t92 : AFn := ⟨3, 133, [.t 6],
 (.seq
 (.region [⟨(some 6), .mov (.c (.d (.sc (.bool false)))), none, 0, 0⟩] false)
 (.seq
 (.region [⟨(some 11), .mov (.t 1), none, 0, 0⟩,
 ⟨(some 12), .bin .add (.t 11) (.c (.d (.sc (.int .i64 1)))), none, 0, 0⟩,
 ⟨(some 7), .mov (.t 12), none, 0, 0⟩] false)
 (.seq
 (.seq
 (.region [⟨(some 8), .mov (.c (.d (.sc (.int .i64 0)))), none, 0, 0⟩] false)
 (.block 0
 (.loop
 (.seq
 (.seq
 (.region [⟨(some 13), .mov (.t 8), none, 0, 0⟩,
 ⟨(some 14), .bin .lss (.t 13) (.c (.d (.sc (.int .i64 5)))), none, 0, 0⟩] false)
 (.cond (.t 14)
 .skip
 (.exit 0)))
 (.seq
 (.block 1
 (.seq
 (.block 2
 (.loop
 (.seq
 (.seq
 (.region [⟨(some 17), .mov (.t 7), none, 0, 0⟩,
 ⟨(some 18), .mov (.t 2), none, 0, 0⟩,
 ⟨(some 19), .bin .lss (.t 17) (.t 18), none, 3, 0⟩,
 ⟨(some 20), .mov (.t 19), none, 7, 0⟩,
 ⟨(some 21), .mov (.t 0), (some (20, true)), 15, 0⟩,
 ⟨(some 22), .mov (.t 7), (some (20, true)), 15, 0⟩,
 ⟨(some 23), .indexAddr 1 (.t 21) (.t 22), (some (20, true)), 63, 0⟩,
 ⟨(some 24), .load 1 false (.t 23), (some (20, true)), 127, 0⟩,
 ⟨(some 25), .mov (.t 0), (some (20, true)), 15, 0⟩,
 ⟨(some 26), .mov (.t 7), (some (20, true)), 15, 0⟩,
 ⟨(some 27), .bin .sub (.t 26) (.c (.d (.sc (.int .i64 1)))), (some (20, true)), 527, 0⟩,
 ⟨(some 28), .indexAddr 1 (.t 25) (.t 27), (some (20, true)), 1807, 0⟩,
 ⟨(some 29), .load 1 false (.t 28), (some (20, true)), 3855, 0⟩,
 ⟨(some 30), .callF 93 [(.t 24), (.t 29)], (some (20, true)), 8191, 0⟩,
 ⟨(some 31), .un .not (.t 30), (some (20, true)), 16383, 0⟩,
 ⟨(some 32), .pick (.t 20) (.t 31) (.c (.d (.sc (.bool false)))), none, 32767, 0⟩] true)
 (.cond (.t 32)
 .skip
 (.exit 2)))
 (.block 3
 (.region [⟨(some 33), .mov (.t 7), none, 0, 0⟩,
 ⟨(some 34), .bin .add (.t 33) (.c (.d (.sc (.int .i64 1)))), none, 0, 0⟩,
 ⟨(some 7), .mov (.t 34), none, 0, 0⟩] false)))))
 (.seq
 (.seq
 (.region [⟨(some 35), .mov (.t 7), none, 0, 0⟩,
 ⟨(some 36), .mov (.t 2), none, 0, 0⟩,
 ⟨(some 37), .bin .eql (.t 35) (.t 36), none, 0, 0⟩] false)
 (.cond (.t 37)
 (.seq
 (.region [⟨(some 6), .mov (.c (.d (.sc (.bool true)))), none, 0, 0⟩] false)
 .ret)
 .skip))
 (.seq
 (.seq
 (.region [⟨(some 38), .mov (.t 2), none, 0, 0⟩,
 ⟨(some 39), .mov (.t 1), none, 0, 0⟩,
 ⟨(some 40), .bin .sub (.t 38) (.t 39), none, 0, 0⟩,
 ⟨(some 41), .bin .lss (.t 40) (.c (.d (.sc (.int .i64 50)))), none, 0, 0⟩] false)
 (.cond (.t 41)
 (.seq
 (.region [⟨(some 6), .mov (.c (.d (.sc (.bool false)))), none, 0, 0⟩] false)
 .ret)
 .skip))
 (.seq
 (.region [⟨(some 42), .mov (.t 0), none, 0, 0⟩,
 ⟨(some 43), .mov (.t 7), none, 0, 0⟩,
 ⟨(some 44), .mov (.t 0), none, 0, 0⟩,
 ⟨(some 45), .mov (.t 7), none, 0, 0⟩,
 ⟨(some 46), .bin .sub (.t 45) (.c (.d (.sc (.int .i64 1)))), none, 8, 0⟩,
 ⟨(some 47), .mov (.t 0), none, 0, 0⟩,
 ⟨(some 48), .mov (.t 7), none, 0, 0⟩,
 ⟨(some 49), .bin .sub (.t 48) (.c (.d (.sc (.int .i64 1)))), none, 64, 0⟩,
 ⟨(some 50), .indexAddr 1 (.t 47) (.t 49), none, 224, 0⟩,
 ⟨(some 51), .load 1 false (.t 50), none, 480, 0⟩,
 ⟨(some 52), .mov (.t 0), none, 0, 0⟩,
 ⟨(some 53), .mov (.t 7), none, 0, 0⟩,
 ⟨(some 54), .indexAddr 1 (.t 52) (.t 53), none, 3072, 0⟩,
 ⟨(some 55), .load 1 false (.t 54), none, 7168, 0⟩,
 ⟨(some 56), .indexAddr 1 (.t 42) (.t 43), none, 16355, 0⟩,
 ⟨none, .store 1 (.t 56) (.t 51), none, 32739, 0⟩,
 ⟨(some 57), .indexAddr 1 (.t 44) (.t 46), none, 65535, 0⟩,
 ⟨none, .store 1 (.t 57) (.t 55), none, 131071, 0⟩] true)
 (.seq
 (.seq
 (.region [⟨(some 58), .mov (.t 7), none, 0, 0⟩,
 ⟨(some 59), .mov (.t 1), none, 0, 0⟩,
 ⟨(some 60), .bin .sub (.t 58) (.t 59), none, 0, 0⟩,
 ⟨(some 61), .bin .geq (.t 60) (.c (.d (.sc (.int .i64 2)))), none, 0, 0⟩] false)
 (.cond (.t 61)
 (.seq
 (.region [⟨(some 62), .mov (.t 7), none, 0, 0⟩,
 ⟨(some 63), .bin .sub (.t 62) (.c (.d (.sc (.int .i64 1)))), none, 0, 0⟩,
 ⟨(some 9), .mov (.t 63), none, 0, 0⟩] false)
 (.block 4
 (.loop
 (.seq
 (.seq
 (.region [⟨(some 64), .mov (.t 9), none, 0, 0⟩,
 ⟨(some 65), .bin .geq (.t 64) (.c (.d (.sc (.int .i64 1)))), none, 0, 0⟩] false)
 (.cond (.t 65)
 .skip
 (.exit 4)))
 (.seq
 (.block 5
 (.seq
 (.seq
 (.region [⟨(some 68), .mov (.t 0), none, 0, 0⟩,
 ⟨(some 69), .mov (.t 9), none, 0, 0⟩,
 ⟨(some 70), .indexAddr 1 (.t 68) (.t 69), none, 3, 0⟩,
 ⟨(some 71), .load 1 false (.t 70), none, 7, 0⟩,
 ⟨(some 72), .mov (.t 0), none, 0, 0⟩,
 ⟨(some 73), .mov (.t 9), none, 0, 0⟩,
 ⟨(some 74), .bin .sub (.t 73) (.c (.d (.sc (.int .i64 1)))), none, 32, 0⟩,
 ⟨(some 75), .indexAddr 1 (.t 72) (.t 74), none, 112, 0⟩,
 ⟨(some 76), .load 1 false (.t 75), none, 240, 0⟩,
 ⟨(some 77), .callF 93 [(.t 71), (.t 76)], none, 511, 0⟩,
 ⟨(some 78), .un .not (.t 77), none, 1023, 0⟩] true)
 (.cond (.t 78)
 (.exit 4)
 .skip))
 (.region [⟨(some 79), .mov (.t 0), none, 0, 0⟩,
 ⟨(some 80), .mov (.t 9), none, 0, 0⟩,
 ⟨(some 81), .mov (.t 0), none, 0, 0⟩,
 ⟨(some 82), .mov (.t 9), none, 0, 0⟩,
 ⟨(some 83), .bin .sub (.t 82) (.c (.d (.sc (.int .i64 1)))), none, 8, 0⟩,
 ⟨(some 84), .mov (.t 0), none, 0, 0⟩,
 ⟨(some 85), .mov (.t 9), none, 0, 0⟩,
 ⟨(some 86), .bin .sub (.t 85) (.c (.d (.sc (.int .i64 1)))), none, 64, 0⟩,
 ⟨(some 87), .indexAddr 1 (.t 84) (.t 86), none, 224, 0⟩,
 ⟨(some 88), .load 1 false (.t 87), none, 480, 0⟩,
 ⟨(some 89), .mov (.t 0), none, 0, 0⟩,
 ⟨(some 90), .mov (.t 9), none, 0, 0⟩,
 ⟨(some 91), .indexAddr 1 (.t 89) (.t 90), none, 3072, 0⟩,
 ⟨(some 92), .load 1 false (.t 91), none, 7168, 0⟩,
 ⟨(some 93), .indexAddr 1 (.t 79) (.t 80), none, 16355, 0⟩,
 ⟨none, .store 1 (.t 93) (.t 88), none, 32739, 0⟩,
 ⟨(some 94), .indexAddr 1 (.t 81) (.t 83), none, 65535, 0⟩,
 ⟨none, .store 1 (.t 94) (.t 92), none, 131071, 0⟩] true)))
 (.region [⟨(some 66), .mov (.t 9), none, 0, 0⟩,
 ⟨(some 67), .bin .sub (.t 66) (.c (.d (.sc (.int .i64 1)))), none, 0, 0⟩,
 ⟨(some 9), .mov (.t 67), none, 0, 0⟩] false))))))
 .skip))
 (.seq
 (.region [⟨(some 95), .mov (.t 2), none, 0, 0⟩,
 ⟨(some 96), .mov (.t 7), none, 0, 0⟩,
 ⟨(some 97), .bin .sub (.t 95) (.t 96), none, 0, 0⟩,
 ⟨(some 98), .bin .geq (.t 97) (.c (.d (.sc (.int .i64 2)))), none, 0, 0⟩] false)
 (.cond (.t 98)
 (.seq
 (.region [⟨(some 99), .mov (.t 7), none, 0, 0⟩,
 ⟨(some 100), .bin .add (.t 99) (.c (.d (.sc (.int .i64 1)))), none, 0, 0⟩,
 ⟨(some 10), .mov (.t 100), none, 0, 0⟩] false)
 (.block 6
 (.loop
 (.seq
 (.seq
 (.region [⟨(some 101), .mov (.t 10), none, 0, 0⟩,
 ⟨(some 102), .mov (.t 2), none, 0, 0⟩,
 ⟨(some 103), .bin .lss (.t 101) (.t 102), none, 0, 0⟩] false)
 (.cond (.t 103)
 .skip
 (.exit 6)))
 (.seq
 (.block 7
 (.seq
 (.seq
 (.region [⟨(some 106), .mov (.t 0), none, 0, 0⟩,
 ⟨(some 107), .mov (.t 10), none, 0, 0⟩,
 ⟨(some 108), .indexAddr 1 (.t 106) (.t 107), none, 3, 0⟩,
 ⟨(some 109), .load 1 false (.t 108), none, 7, 0⟩,
 ⟨(some 110), .mov (.t 0), none, 0, 0⟩,
 ⟨(some 111), .mov (.t 10), none, 0, 0⟩,
 ⟨(some 112), .bin .sub (.t 111) (.c (.d (.sc (.int .i64 1)))), none, 32, 0⟩,
 ⟨(some 113), .indexAddr 1 (.t 110) (.t 112), none, 112, 0⟩,
 ⟨(some 114), .load 1 false (.t 113), none, 240, 0⟩,
 ⟨(some 115), .callF 93 [(.t 109), (.t 114)], none, 511, 0⟩,
 ⟨(some 116), .un .not (.t 115), none, 1023, 0⟩] true)
 (.cond (.t 116)
 (.exit 6)
 .skip))
 (.region [⟨(some 117), .mov (.t 0), none, 0, 0⟩,
 ⟨(some 118), .mov (.t 10), none, 0, 0⟩,
 ⟨(some 119), .mov (.t 0), none, 0, 0⟩,
 ⟨(some 120), .mov (.t 10), none, 0, 0⟩,
 ⟨(some 121), .bin .sub (.t 120) (.c (.d (.sc (.int .i64 1)))), none, 8, 0⟩,
 ⟨(some 122), .mov (.t 0), none, 0, 0⟩,
 ⟨(some 123), .mov (.t 10), none, 0, 0⟩,
 ⟨(some 124), .bin .sub (.t 123) (.c (.d (.sc (.int .i64 1)))), none, 64, 0⟩,
 ⟨(some 125), .indexAddr 1 (.t 122) (.t 124), none, 224, 0⟩,
 ⟨(some 126), .load 1 false (.t 125), none, 480, 0⟩,
 ⟨(some 127), .mov (.t 0), none, 0, 0⟩,
 ⟨(some 128), .mov (.t 10), none, 0, 0⟩,
 ⟨(some 129), .indexAddr 1 (.t 127) (.t 128), none, 3072, 0⟩,
 ⟨(some 130), .load 1 false (.t 129), none, 7168, 0⟩,
 ⟨(some 131), .indexAddr 1 (.t 117) (.t 118), none, 16355, 0⟩,
 ⟨none, .store 1 (.t 131) (.t 126), none, 32739, 0⟩,
 ⟨(some 132), .indexAddr 1 (.t 119) (.t 121), none, 65535, 0⟩,
 ⟨none, .store 1 (.t 132) (.t 130), none, 131071, 0⟩] true)))
 (.region [⟨(some 104), .mov (.t 10), none, 0, 0⟩,
 ⟨(some 105), .bin .add (.t 104) (.c (.d (.sc (.int .i64 1)))), none, 0, 0⟩,
 ⟨(some 10), .mov (.t 105), none, 0, 0⟩] false))))))
 .skip))))))))
 (.region [⟨(some 15), .mov (.t 8), none, 0, 0⟩,
 ⟨(some 16), .bin .add (.t 15) (.c (.d (.sc (.int .i64 1)))), none, 0, 0⟩,
 ⟨(some 8), .mov (.t 16), none, 0, 0⟩] false))))))
 (.seq
 (.region [⟨(some 6), .mov (.c (.d (.sc (.bool false)))), none, 0, 0⟩] false)
 .ret)))), true⟩
/-- cmp.Less[int] -/
def t93 : AFn := ⟨2, 17, [.t 4],
 (.seq
 (.region [⟨(some 4), .mov (.c (.d (.sc (.bool false)))), none, 0, 0⟩] false)
 (.seq
 (.region [⟨(some 5), .mov (.t 0), none, 0, 0⟩,
 ⟨(some 6), .callF 104 [(.t 5)], none, 0, 0⟩,
 ⟨(some 7), .mov (.t 6), none, 0, 0⟩,
 ⟨(some 8), .mov (.t 1), (some (7, true)), 0, 0⟩,
 ⟨(some 9), .callF 104 [(.t 8)], (some (7, true)), 0, 0⟩,
 ⟨(some 10), .un .not (.t 9), (some (7, true)), 0, 0⟩,
 ⟨(some 11), .pick (.t 7) (.t 10) (.c (.d (.sc (.bool false)))), none, 0, 0⟩,
 ⟨(some 12), .mov (.t 11), none, 0, 0⟩,
 ⟨(some 13), .mov (.t 0), (some (12, false)), 0, 0⟩,
 ⟨(some 14), .mov (.t 1), (some (12, false)), 0, 0⟩,
 ⟨(some 15), .bin .lss (.t 13) (.t 14), (some (12, false)), 0, 0⟩,
 ⟨(some 16), .pick (.t 12) (.c (.d (.sc (.bool true)))) (.t 15), none, 0, 0⟩,
 ⟨(some 4), .mov (.t 16), none, 0, 0⟩] false)
 .ret)), false⟩
/-- slices.partitionEqualOrdered[int] -/
def t94 : AFn := ⟨4, 84, [.t 8],
 (.seq
 (.region [⟨(some 8), .mov (.c (.d (.sc (.int .i64 0)))), none, 0, 0⟩] false)
 (.seq
 (.region [⟨(some 11), .mov (.t 0), none, 0, 0⟩,
 ⟨(some 12), .mov (.t 1), none, 0, 0⟩,
 ⟨(some 13), .mov (.t 0), none, 0, 0⟩,
 ⟨(some 14), .mov (.t 3), none, 0, 0⟩,
 ⟨(some 15), .mov (.t 0), none, 0, 0⟩,
 ⟨(some 16), .mov (.t 3), none, 0, 0⟩,
 ⟨(some 17), .indexAddr 1 (.t 15) (.t 16), none, 48, 0⟩,
 ⟨(some 18), .load 1 false (.t 17), none, 112, 0⟩,
 ⟨(some 19), .mov (.t 0), none, 0, 0⟩,
 ⟨(some 20), .mov (.t 1), none, 0, 0⟩,
 ⟨(some 21), .indexAddr 1 (.t 19) (.t 20), none, 768, 0⟩,
 ⟨(some 22), .load 1 false (.t 21), none, 1792, 0⟩,
 ⟨(some 23), .indexAddr 1 (.t 11) (.t 12), none, 4083, 0⟩,
 ⟨none, .store 1 (.t 23) (.t 18), none, 8179, 0⟩,
 ⟨(some 24), .indexAddr 1 (.t 13) (.t 14), none, 16383, 0⟩,
 ⟨none, .store 1 (.t 24) (.t 22), none, 32767, 0⟩] true)
 (.seq
 (.region [⟨(some 25), .mov (.t 1), none, 0, 0⟩,
 ⟨(some 26), .bin .add (.t 25) (.c (.d (.sc (.int .i64 1)))), none, 0, 0⟩,
 ⟨(some 27), .mov (.t 2), none, 0, 0⟩,
 ⟨(some 28), .bin .sub (.t 27) (.c (.d (.sc (.int .i64 1)))), none, 0, 0⟩,
 ⟨(some 9), .mov (.t 26), none, 0, 0⟩,
 ⟨(some 10), .mov (.t 28), none, 0, 0⟩] false)
 (.seq
 (.block 0
 (.loop
 (.block 1
 (.seq
 (.block 2
 (.loop
 (.seq
 (.seq
 (.region [⟨(some 29), .mov (.t 9), none, 0, 0⟩,
 ⟨(some 30), .mov (.t 10), none, 0, 0⟩,
 ⟨(some 31), .bin .leq (.t 29) (.t 30), none, 3, 0⟩,
 ⟨(some 32), .mov (.t 31), none, 7, 0⟩,
 ⟨(some 33), .mov (.t 0), (some (32, true)), 15, 0⟩,
 ⟨(some 34), .mov (.t 1), (some (32, true)), 15, 0⟩,
 ⟨(some 35), .indexAddr 1 (.t 33) (.t 34), (some (32, true)), 63, 0⟩,
 ⟨(some 36), .load 1 false (.t 35), (some (32, true)), 127, 0⟩,
 ⟨(some 37), .mov (.t 0), (some (32, true)), 15, 0⟩,
 ⟨(some 38), .mov (.t 9), (some (32, true)), 15, 0⟩,
 ⟨(some 39), .indexAddr 1 (.t 37) (.t 38), (some (32, true)), 783, 0⟩,
 ⟨(some 40), .load 1 false (.t 39), (some (32, true)), 1807, 0⟩,
 ⟨(some 41), .callF 93 [(.t 36), (.t 40)], (some (32, true)), 4095, 0⟩,
 ⟨(some 42), .un .not (.t 41), (some (32, true)), 8191, 0⟩,
 ⟨(some 43), .pick (.t 32) (.t 42) (.c (.d (.sc (.bool false)))), none, 16383, 0⟩] true)
 (.cond (.t 43)
 .skip
 (.exit 2)))
 (.block 3
 (.region [⟨(some 44), .mov (.t 9), none, 0, 0⟩,
 ⟨(some 45), .bin .add (.t 44) (.c (.d (.sc (.int .i64 1)))), none, 0, 0⟩,
 ⟨(some 9), .mov (.t 45), none, 0, 0⟩] false)))))
 (.seq
 (.block 4
 (.loop
 (.seq
 (.seq
 (.region [⟨(some 46), .mov (.t 9), none, 0, 0⟩,
 ⟨(some 47), .mov (.t 10), none, 0, 0⟩,
 ⟨(some 48), .bin .leq (.t 46) (.t 47), none, 3, 0⟩,
 ⟨(some 49), .mov (.t 48), none, 7, 0⟩,
 ⟨(some 50), .mov (.t 0), (some (49, true)), 15, 0⟩,
 ⟨(some 51), .mov (.t 1), (some (49, true)), 15, 0⟩,
 ⟨(some 52), .indexAddr 1 (.t 50) (.t 51), (some (49, true)), 63, 0⟩,
 ⟨(some 53), .load 1 false (.t 52), (some (49, true)), 127, 0⟩,
 ⟨(some 54), .mov (.t 0), (some (49, true)), 15, 0⟩,
 ⟨(some 55), .mov (.t 10), (some (49, true)), 15, 0⟩,
 ⟨(some 56), .indexAddr 1 (.t 54) (.t 55), (some (49, true)), 783, 0⟩,
 ⟨(some 57), .load 1 false (.t 56), (some (49, true)), 1807, 0⟩,
 ⟨(some 58), .callF 93 [(.t 53), (.t 57)], (some (49, true)), 4095, 0⟩,
 ⟨(some 59), .pick (.t 49) (.t 58) (.c (.d (.sc (.bool false)))), none, 8191, 0⟩] true)
 (.cond (.t 59)
 .skip
 (.exit 4)))
 (.block 5
 (.region [⟨(some 60), .mov (.t 10), none, 0, 0⟩,
 ⟨(some 61), .bin .sub (.t 60) (.c (.d (.sc (.int .i64 1)))), none, 0, 0⟩,
 ⟨(some 10), .mov (.t 61), none, 0, 0⟩] false)))))
 (.seq
 (.seq
 (.region [⟨(some 62), .mov (.t 9), none, 0, 0⟩,
 ⟨(some 63), .mov (.t 10), none, 0, 0⟩,
 ⟨(some 64), .bin .gtr (.t 62) (.t 63), none, 0, 0⟩] false)
 (.cond (.t 64)
 (.exit 0)
 .skip))
 (.seq
 (.region [⟨(some 65), .mov (.t 0), none, 0, 0⟩,
 ⟨(some 66), .mov (.t 9), none, 0, 0⟩,
 ⟨(some 67), .mov (.t 0), none, 0, 0⟩,
 ⟨(some 68), .mov (.t 10), none, 0, 0⟩,
 ⟨(some 69), .mov (.t 0), none, 0, 0⟩,
 ⟨(some 70), .mov (.t 10), none, 0, 0⟩,
 ⟨(some 71), .indexAddr 1 (.t 69) (.t 70), none, 48, 0⟩,
 ⟨(some 72), .load 1 false (.t 71), none, 112, 0⟩,
 ⟨(some 73), .mov (.t 0), none, 0, 0⟩,
 ⟨(some 74), .mov (.t 9), none, 0, 0⟩,
 ⟨(some 75), .indexAddr 1 (.t 73) (.t 74), none, 768, 0⟩,
 ⟨(some 76), .load 1 false (.t 75), none, 1792, 0⟩,
 ⟨(some 77), .indexAddr 1 (.t 65) (.t 66), none, 4083, 0⟩,
 ⟨none, .store 1 (.t 77) (.t 72), none, 8179, 0⟩,
 ⟨(some 78), .indexAddr 1 (.t 67) (.t 68), none, 16383, 0⟩,
 ⟨none, .store 1 (.t 78) (.t 76), none, 32767, 0⟩] true)
 (.seq
 (.region [⟨(some 79), .mov (.t 9), none, 0, 0⟩,
 ⟨(some 80), .bin .add (.t 79) (.c (.d (.sc (.int .i64 1)))), none, 0, 0⟩,
 ⟨(some 9), .mov (.t 80), none, 0, 0⟩] false)
 (.region [⟨(some 81), .mov (.t 10), none, 0, 0⟩,
 ⟨(some 82), .bin .sub (.t 81) (.c (.d (.sc (.int .i64 1)))), none, 0, 0⟩,
 ⟨(some 10), .mov (.t 82), none, 0, 0⟩] false)))))))))
 (.seq
 (.region [⟨(some 83), .mov (.t 9), none, 0, 0⟩,
 ⟨(some 8), .mov (.t 83), none, 0, 0⟩] false)
 .ret))))), true⟩
/-- slices.partitionOrdered[int] -/
def t95 : AFn := ⟨4, 168, [.t 8, .t 9],
 (.seq
 (.region [⟨(some 8), .mov (.c (.d (.sc (.int .i64 0)))), none, 0, 0⟩,
 ⟨(some 9), .mov (.c (.d (.sc (.bool false)))), none, 0, 0⟩] false)
 (.seq
 (.region [⟨(some 12), .mov (.t 0), none, 0, 0⟩,
 ⟨(some 13), .mov (.t 1), none, 0, 0⟩,
 ⟨(some 14), .mov (.t 0), none, 0, 0⟩,
 ⟨(some 15), .mov (.t 3), none, 0, 0⟩,
 ⟨(some 16), .mov (.t 0), none, 0, 0⟩,
 ⟨(some 17), .mov (.t 3), none, 0, 0⟩,
 ⟨(some 18), .indexAddr 1 (.t 16) (.t 17), none, 48, 0⟩,
 ⟨(some 19), .load 1 false (.t 18), none, 112, 0⟩,
 ⟨(some 20), .mov (.t 0), none, 0, 0⟩,
 ⟨(some 21), .mov (.t 1), none, 0, 0⟩,
 ⟨(some 22), .indexAddr 1 (.t 20) (.t 21), none, 768, 0⟩,
 ⟨(some 23), .load 1 false (.t 22), none, 1792, 0⟩,
 ⟨(some 24), .indexAddr 1 (.t 12) (.t 13), none, 4083, 0⟩,
 ⟨none, .store 1 (.t 24) (.t 19), none, 8179, 0⟩,
 ⟨(some 25), .indexAddr 1 (.t 14) (.t 15), none, 16383, 0⟩,
 ⟨none, .store 1 (.t 25) (.t 23), none, 32767, 0⟩] true)
 (.seq
 (.region [⟨(some 26), .mov (.t 1), none, 0, 0⟩,
 ⟨(some 27), .bin .add (.t 26) (.c (.d (.sc (.int .i64 1)))), none, 0, 0⟩,
 ⟨(some 28), .mov (.t 2), none, 0, 0⟩,
 ⟨(some 29), .bin .sub (.t 28) (.c (.d (.sc (.int .i64 1)))), none, 0, 0⟩,
 ⟨(some 10), .mov (.t 27), none, 0, 0⟩,
 ⟨(some 11), .mov (.t 29), none, 0, 0⟩] false)
 (.seq
 (.block 0
 (.loop
 (.seq
 (.seq
 (.region [⟨(some 30), .mov (.t 10), none, 0, 0⟩,
 ⟨(some 31), .mov (.t 11), none, 0, 0⟩,
 ⟨(some 32), .bin .leq (.t 30) (.t 31), none, 3, 0⟩,
 ⟨(some 33), .mov (.t 32), none, 7, 0⟩,
 ⟨(some 34), .mov (.t 0), (some (33, true)), 15, 0⟩,
 ⟨(some 35), .mov (.t 10), (some (33, true)), 15, 0⟩,
 ⟨(some 36), .indexAddr 1 (.t 34) (.t 35), (some (33, true)), 63, 0⟩,
 ⟨(some 37), .load 1 false (.t 36), (some (33, true)), 127, 0⟩,
 ⟨(some 38), .mov (.t 0), (some (33, true)), 15, 0⟩,
 ⟨(some 39), .mov (.t 1), (some (33, true)), 15, 0⟩,
 ⟨(some 40), .indexAddr 1 (.t 38) (.t 39), (some (33, true)), 783, 0⟩,
 ⟨(some 41), .load 1 false (.t 40), (some (33, true)), 1807, 0⟩,
 ⟨(some 42), .callF 93 [(.t 37), (.t 41)], (some (33, true)), 4095, 0⟩,
 ⟨(some 43), .pick (.t 33) (.t 42) (.c (.d (.sc (.bool false)))), none, 8191, 0⟩] true)
 (.cond (.t 43)
 .skip
 (.exit 0)))
 (.block 1
 (.region [⟨(some 44), .mov (.t 10), none, 0, 0⟩,
 ⟨(some 45), .bin .add (.t 44) (.c (.d (.sc (.int .i64 1)))), none, 0, 0⟩,
 ⟨(some 10), .mov (.t 45), none, 0, 0⟩] false)))))
 (.seq
 (.block 2
 (.loop
 (.seq
 (.seq
 (.region [⟨(some 46), .mov (.t 10), none, 0, 0⟩,
 ⟨(some 47), .mov (.t 11), none, 0, 0⟩,
 ⟨(some 48), .bin .leq (.t 46) (.t 47), none, 3, 0⟩,
 ⟨(some 49), .mov (.t 48), none, 7, 0⟩,
 ⟨(some 50), .mov (.t 0), (some (49, true)), 15, 0⟩,
 ⟨(some 51), .mov (.t 11), (some (49, true)), 15, 0⟩,
 ⟨(some 52), .indexAddr 1 (.t 50) (.t 51), (some (49, true)), 63, 0⟩,
 ⟨(some 53), .load 1 false (.t 52), (some (49, true)), 127, 0⟩,
 ⟨(some 54), .mov (.t 0), (some (49, true)), 15, 0⟩,
 ⟨(some 55), .mov (.t 1), (some (49, true)), 15, 0⟩,
 ⟨(some 56), .indexAddr 1 (.t 54) (.t 55), (some (49, true)), 783, 0⟩,
 ⟨(some 57), .load 1 false (.t 56), (some (49, true)), 1807, 0⟩,
 ⟨(some 58), .callF 93 [(.t 53), (.t 57)], (some (49, true)), 4095, 0⟩,
 ⟨(some 59), .un .not (.t 58), (some (49, true)), 8191, 0⟩,
 ⟨(some 60), .pick (.t 49) (.t 59) (.c (.d (.sc (.bool false)))), none, 16383, 0⟩] true)
 (.cond (.t 60)
 .skip
 (.exit 2)))
 (.block 3
 (.region [⟨(some 61), .mov (.t 11), none, 0, 0⟩,
 ⟨(some 62), .bin .sub (.t 61) (.c (.d (.sc (.int .i64 1)))), none, 0, 0⟩,
 ⟨(some 11), .mov (.t 62), none, 0, 0⟩] false)))))
 (.seq
 (.seq
 (.region [⟨(some 63), .mov (.t 10), none, 0, 0⟩,
 ⟨(some 64), .mov (.t 11), none, 0, 0⟩,
 ⟨(some 65), .bin .gtr (.t 63) (.t 64), none, 0, 0⟩] false)
 (.cond (.t 65)
 (.seq
 (.region [⟨(some 66), .mov (.t 0), none, 0, 0⟩,
 ⟨(some 67), .mov (.t 11), none, 0, 0⟩,
 ⟨(some 68), .mov (.t 0), none, 0, 0⟩,
 ⟨(some 69), .mov (.t 1), none, 0, 0⟩,
 ⟨(some 70), .mov (.t 0), none, 0, 0⟩,
 ⟨(some 71), .mov (.t 1), none, 0, 0⟩,
 ⟨(some 72), .indexAddr 1 (.t 70) (.t 71), none, 48, 0⟩,
 ⟨(some 73), .load 1 false (.t 72), none, 112, 0⟩,
 ⟨(some 74), .mov (.t 0), none, 0, 0⟩,
 ⟨(some 75), .mov (.t 11), none, 0, 0⟩,
 ⟨(some 76), .indexAddr 1 (.t 74) (.t 75), none, 768, 0⟩,
 ⟨(some 77), .load 1 false (.t 76), none, 1792, 0⟩,
 ⟨(some 78), .indexAddr 1 (.t 66) (.t 67), none, 4083, 0⟩,
 ⟨none, .store 1 (.t 78) (.t 73), none, 8179, 0⟩,
 ⟨(some 79), .indexAddr 1 (.t 68) (.t 69), none, 16383, 0⟩,
 ⟨none, .store 1 (.t 79) (.t 77), none, 32767, 0⟩] true)
 (.seq
 (.region [⟨(some 80), .mov (.t 11), none, 0, 0⟩,
 ⟨(some 8), .mov (.t 80), none, 0, 0⟩,
 ⟨(some 9), .mov (.c (.d (.sc (.bool true)))), none, 0, 0⟩] false)
 .ret))
 .skip))
 (.seq
 (.region [⟨(some 81), .mov (.t 0), none, 0, 0⟩,
 ⟨(some 82), .mov (.t 10), none, 0, 0⟩,
 ⟨(some 83), .mov (.t 0), none, 0, 0⟩,
 ⟨(some 84), .mov (.t 11), none, 0, 0⟩,
 ⟨(some 85), .mov (.t 0), none, 0, 0⟩,
 ⟨(some 86), .mov (.t 11), none, 0, 0⟩,
 ⟨(some 87), .indexAddr 1 (.t 85) (.t 86), none, 48, 0⟩,
 ⟨(some 88), .load 1 false (.t 87), none, 112, 0⟩,
 ⟨(some 89), .mov (.t 0), none, 0, 0⟩,
 ⟨(some 90), .mov (.t 10), none, 0, 0⟩,
 ⟨(some 91), .indexAddr 1 (.t 89) (.t 90), none, 768, 0⟩,
 ⟨(some 92), .load 1 false (.t 91), none, 1792, 0⟩,
 ⟨(some 93), .indexAddr 1 (.t 81) (.t 82), none, 4083, 0⟩,
 ⟨none, .store 1 (.t 93) (.t 88), none, 8179, 0⟩,
 ⟨(some 94), .indexAddr 1 (.t 83) (.t 84), none, 16383, 0⟩,
 ⟨none, .store 1 (.t 94) (.t 92), none, 32767, 0⟩] true)
 (.seq
 (.region [⟨(some 95), .mov (.t 10), none, 0, 0⟩,
 ⟨(some 96), .bin .add (.t 95) (.c (.d (.sc (.int .i64 1)))), none, 0, 0⟩,
 ⟨(some 10), .mov (.t 96), none, 0, 0⟩] false)
 (.seq
 (.region [⟨(some 97), .mov (.t 11), none, 0, 0⟩,
 ⟨(some 98), .bin .sub (.t 97) (.c (.d (.sc (.int .i64 1)))), none, 0, 0⟩,
 ⟨(some 11), .mov (.t 98), none, 0, 0⟩] false)
 (.seq
 (.block 4
 (.loop
 (.block 5
 (.seq
 (.block 6
 (.loop
 (.seq
 (.seq
 (.region [⟨(some 99), .mov (.t 10), none, 0, 0⟩,
 ⟨(some 100), .mov (.t 11), none, 0, 0⟩,
 ⟨(some 101), .bin .leq (.t 99) (.t 100), none, 3, 0⟩,
 ⟨(some 102), .mov (.t 101), none, 7, 0⟩,
 ⟨(some 103), .mov (.t 0), (some (102, true)), 15, 0⟩,
 ⟨(some 104), .mov (.t 10), (some (102, true)), 15, 0⟩,
 ⟨(some 105), .indexAddr 1 (.t 103) (.t 104), (some (102, true)), 63, 0⟩,
 ⟨(some 106), .load 1 false (.t 105), (some (102, true)), 127, 0⟩,
 ⟨(some 107), .mov (.t 0), (some (102, true)), 15, 0⟩,
 ⟨(some 108), .mov (.t 1), (some (102, true)), 15, 0⟩,
 ⟨(some 109), .indexAddr 1 (.t 107) (.t 108), (some (102, true)), 783, 0⟩,
 ⟨(some 110), .load 1 false (.t 109), (some (102, true)), 1807, 0⟩,
 ⟨(some 111), .callF 93 [(.t 106), (.t 110)], (some (102, true)), 4095, 0⟩,
 ⟨(some 112), .pick (.t 102) (.t 111) (.c (.d (.sc (.bool false)))), none, 8191, 0⟩] true)
 (.cond (.t 112)
 .skip
 (.exit 6)))
 (.block 7
 (.region [⟨(some 113), .mov (.t 10), none, 0, 0⟩,
 ⟨(some 114), .bin .add (.t 113) (.c (.d (.sc (.int .i64 1)))), none, 0, 0⟩,
 ⟨(some 10), .mov (.t 114), none, 0, 0⟩] false)))))
 (.seq
 (.block 8
 (.loop
 (.seq
 (.seq
 (.region [⟨(some 115), .mov (.t 10), none, 0, 0⟩,
 ⟨(some 116), .mov (.t 11), none, 0, 0⟩,
 ⟨(some 117), .bin .leq (.t 115) (.t 116), none, 3, 0⟩,
 ⟨(some 118), .mov (.t 117), none, 7, 0⟩,
 ⟨(some 119), .mov (.t 0), (some (118, true)), 15, 0⟩,
 ⟨(some 120), .mov (.t 11), (some (118, true)), 15, 0⟩,
 ⟨(some 121), .indexAddr 1 (.t 119) (.t 120), (some (118, true)), 63, 0⟩,
 ⟨(some 122), .load 1 false (.t 121), (some (118, true)), 127, 0⟩,
 ⟨(some 123), .mov (.t 0), (some (118, true)), 15, 0⟩,
 ⟨(some 124), .mov (.t 1), (some (118, true)), 15, 0⟩,
 ⟨(some 125), .indexAddr 1 (.t 123) (.t 124), (some (118, true)), 783, 0⟩,
 ⟨(some 126), .load 1 false (.t 125), (some (118, true)), 1807, 0⟩,
 ⟨(some 127), .callF 93 [(.t 122), (.t 126)], (some (118, true)), 4095, 0⟩,
 ⟨(some 128), .un .not (.t 127), (some (118, true)), 8191, 0⟩,
 ⟨(some 129), .pick (.t 118) (.t 128) (.c (.d (.sc (.bool false)))), none, 16383, 0⟩] true)
 (.cond (.t 129)
 .skip
 (.exit 8)))
 (.block 9
 (.region [⟨(some 130), .mov (.t 11), none, 0, 0⟩,
 ⟨(some 131), .bin .sub (.t 130) (.c (.d (.sc (.int .i64 1)))), none, 0, 0⟩,
 ⟨(some 11), .mov (.t 131), none, 0, 0⟩] false)))))
 (.seq
 (.seq
 (.region [⟨(some 132), .mov (.t 10), none, 0, 0⟩,
 ⟨(some 133), .mov (.t 11), none, 0, 0⟩,
 ⟨(some 134), .bin .gtr (.t 132) (.t 133), none, 0, 0⟩] false)
 (.cond (.t 134)
 (.exit 4)
 .skip))
 (.seq
 (.region [⟨(some 135), .mov (.t 0), none, 0, 0⟩,
 ⟨(some 136), .mov (.t 10), none, 0, 0⟩,
 ⟨(some 137), .mov (.t 0), none, 0, 0⟩,
 ⟨(some 138), .mov (.t 11), none, 0, 0⟩,
 ⟨(some 139), .mov (.t 0), none, 0, 0⟩,
 ⟨(some 140), .mov (.t 11), none, 0, 0⟩,
 ⟨(some 141), .indexAddr 1 (.t 139) (.t 140), none, 48, 0⟩,
 ⟨(some 142), .load 1 false (.t 141), none, 112, 0⟩,
 ⟨(some 143), .mov (.t 0), none, 0, 0⟩,
 ⟨(some 144), .mov (.t 10), none, 0, 0⟩,
 ⟨(some 145), .indexAddr 1 (.t 143) (.t 144), none, 768, 0⟩,
 ⟨(some 146), .load 1 false (.t 145), none, 1792, 0⟩,
 ⟨(some 147), .indexAddr 1 (.t 135) (.t 136), none, 4083, 0⟩,
 ⟨none, .store 1 (.t 147) (.t 142), none, 8179, 0⟩,
 ⟨(some 148), .indexAddr 1 (.t 137) (.t 138), none, 16383, 0⟩,
 ⟨none, .store 1 (.t 148) (.t 146), none, 32767, 0⟩] true)
 (.seq
 (.region [⟨(some 149), .mov (.t 10), none, 0, 0⟩,
 ⟨(some 150), .bin .add (.t 149) (.c (.d (.sc (.int .i64 1)))), none, 0, 0⟩,
 ⟨(some 10), .mov (.t 150), none, 0, 0⟩] false)
 (.region [⟨(some 151), .mov (.t 11), none, 0, 0⟩,
 ⟨(some 152), .bin .sub (.t 151) (.c (.d (.sc (.int .i64 1)))), none, 0, 0⟩,
 ⟨(some 11), .mov (.t 152), none, 0, 0⟩] false)))))))))
 (.seq
 (.region [⟨(some 153), .mov (.t 0), none, 0, 0⟩,
 ⟨(some 154), .mov (.t 11), none, 0, 0⟩,
 ⟨(some 155), .mov (.t 0), none, 0, 0⟩,
 ⟨(some 156), .mov (.t 1), none, 0, 0⟩,
 ⟨(some 157), .mov (.t 0), none, 0, 0⟩,
 ⟨(some 158), .mov (.t 1), none, 0, 0⟩,
 ⟨(some 159), .indexAddr 1 (.t 157) (.t 158), none, 48, 0⟩,
 ⟨(some 160), .load 1 false (.t 159), none, 112, 0⟩,
 ⟨(some 161), .mov (.t 0), none, 0, 0⟩,
 ⟨(some 162), .mov (.t 11), none, 0, 0⟩,
 ⟨(some 163), .indexAddr 1 (.t 161) (.t 162), none, 768, 0⟩,
 ⟨(some 164), .load 1 false (.t 163), none, 1792, 0⟩,
 ⟨(some 165), .indexAddr 1 (.t 153) (.t 154), none, 4083, 0⟩,
 ⟨none, .store 1 (.t 165) (.t 160), none, 8179, 0⟩,
 ⟨(some 166), .indexAddr 1 (.t 155) (.t 156), none, 16383, 0⟩,
 ⟨none, .store 1 (.t 166) (.t 164), none, 32767, 0⟩] true)
 (.seq
 (.region [⟨(some 167), .mov (.t 11), none, 0, 0⟩,
 ⟨(some 8), .mov (.t 167), none, 0, 0⟩,
 ⟨(some 9), .mov (.c (.d (.sc (.bool false)))), none, 0, 0⟩] false)
 .ret)))))))))))), true⟩
/-- math/bits.Len32 -/
def t96 : AFn := ⟨1, 19, [.t 2],
 (.seq
 (.region [⟨(some 2), .mov (.c (.d (.sc (.int .i64 0)))), none, 0, 0⟩] false)
 (.seq
 (.seq
 (.region [⟨(some 3), .mov (.t 0), none, 0, 0⟩,
 ⟨(some 4), .bin .geq (.t 3) (.c (.d (.sc (.int .u32 65536)))), none, 0, 0⟩] false)
 (.cond (.t 4)
 (.seq
 (.region [⟨(some 5), .mov (.t 0), none, 0, 0⟩,
 ⟨(some 6), .bin .shr (.t 5) (.c (.d (.sc (.int .u64 16)))), none, 0, 0⟩,
 ⟨(some 0), .mov (.t 6), none, 0, 0⟩] false)
 (.region [⟨(some 2), .mov (.c (.d (.sc (.int .i64 16)))), none, 0, 0⟩] false))
 .skip))
 (.seq
 (.seq
 (.region [⟨(some 7), .mov (.t 0), none, 0, 0⟩,
 ⟨(some 8), .bin .geq (.t 7) (.c (.d (.sc (.int .u32 256)))), none, 0, 0⟩] false)
 (.cond (.t 8)
 (.seq
 (.region [⟨(some 9), .mov (.t 0), none, 0, 0⟩,
 ⟨(some 10), .bin .shr (.t 9) (.c (.d (.sc (.int .u64 8)))), none, 0, 0⟩,
 ⟨(some 0), .mov (.t 10), none, 0, 0⟩] false)
 (.region [⟨(some 11), .mov (.t 2), none, 0, 0⟩,
 ⟨(some 12), .bin .add (.t 11) (.c (.d (.sc (.int .i64 8)))), none, 0, 0⟩,
 ⟨(some 2), .mov (.t 12), none, 0, 0⟩] false))
 .skip))
 (.seq
 (.region [⟨(some 13), .mov (.t 2), none, 0, 0⟩,
 ⟨(some 14), .mov (.t 0), none, 0, 0⟩,
 ⟨(some 15), .conv .u8 (.t 14), none, 0, 0⟩,
 ⟨(some 16), .indexS (.c (.d (.sc (.string ⟨#[0, 1, 2, 2, 3, 3, 3, 3, 4, 4, 4, 4, 4, 4, 4, 4, 5, 5, 5, 5, 5, 5, 5, 5, 5, 5, 5, 5, 5, 5, 5, 5, 6, 6, 6, 6, 6, 6, 6, 6, 6, 6, 6, 6, 6, 6, 6, 6, 6, 6, 6, 6, 6, 6, 6, 6, 6, 6, 6, 6, 6, 6, 6, 6, 7, 7, 7, 7, 7, 7, 7, 7, 7, 7, 7, 7, 7, 7, 7, 7, 7, 7, 7, 7, 7, 7, 7, 7, 7, 7, 7, 7, 7, 7, 7, 7, 7, 7, 7, 7, 7, 7, 7, 7, 7, 7, 7, 7, 7, 7, 7, 7, 7, 7, 7, 7, 7, 7, 7, 7, 7, 7, 7, 7, 7, 7, 7, 7, 8, 8, 8, 8, 8, 8, 8, 8, 8, 8, 8, 8, 8, 8, 8, 8, 8, 8, 8, 8, 8, 8, 8, 8, 8, 8, 8, 8, 8, 8, 8, 8, 8, 8, 8, 8, 8, 8, 8, 8, 8, 8, 8, 8, 8, 8, 8, 8, 8, 8, 8, 8, 8, 8, 8, 8, 8, 8, 8, 8, 8, 8, 8, 8, 8, 8, 8, 8, 8, 8, 8, 8, 8, 8, 8, 8, 8, 8, 8, 8, 8, 8, 8, 8, 8, 8, 8, 8, 8, 8, 8, 8, 8, 8, 8, 8, 8, 8, 8, 8, 8, 8, 8, 8, 8, 8, 8, 8, 8, 8, 8, 8, 8, 8, 8, 8, 8, 8, 8, 8, 8, 8, 8, 8, 8, 8, 8, 8]⟩)))) (.t 15), none, 0, 0⟩,
 ⟨(some 17), .conv .i64 (.t 16), none, 0, 0⟩,
 ⟨(some 18), .bin .add (.t 13) (.t 17), none, 0, 0⟩,
 ⟨(some 2), .mov (.t 18), none, 0, 0⟩] false)
 .ret)))), false⟩
/-- math/bits.Len64 -/
def t97 : AFn := ⟨1, 25, [.t 2],
 (.seq
 (.region [⟨(some 2), .mov (.c (.d (.sc (.int .i64 0)))), none, 0, 0⟩] false)
 (.seq
 (.seq
 (.region [⟨(some 3), .mov (.t 0), none, 0, 0⟩,
 ⟨(some 4), .bin .geq (.t 3) (.c (.d (.sc (.int .u64 4294967296)))), none, 0, 0⟩] false)
 (.cond (.t 4)
 (.seq
 (.region [⟨(some 5), .mov (.t 0), none, 0, 0⟩,
 ⟨(some 6), .bin .shr (.t 5) (.c (.d (.sc (.int .u64 32)))), none, 0, 0⟩,
 ⟨(some 0), .mov (.t 6), none, 0, 0⟩] false)
 (.region [⟨(some 2), .mov (.c (.d (.sc (.int .i64 32)))), none, 0, 0⟩] false))
 .skip))
 (.seq
 (.seq
 (.region [⟨(some 7), .mov (.t 0), none, 0, 0⟩,
 ⟨(some 8), .bin .geq (.t 7) (.c (.d (.sc (.int .u64 65536)))), none, 0, 0⟩] false)
 (.cond (.t 8)
 (.seq
 (.region [⟨(some 9), .mov (.t 0), none, 0, 0⟩,
 ⟨(some 10), .bin .shr (.t 9) (.c (.d (.sc (.int .u64 16)))), none, 0, 0⟩,
 ⟨(some 0), .mov (.t 10), none, 0, 0⟩] false)
 (.region [⟨(some 11), .mov (.t 2), none, 0, 0⟩,
 ⟨(some 12), .bin .add (.t 11) (.c (.d (.sc (.int .i64 16)))), none, 0, 0⟩,
 ⟨(some 2), .mov (.t 12), none, 0, 0⟩] false))
 .skip))
 (.seq
 (.seq
 (.region [⟨(some 13), .mov (.t 0), none, 0, 0⟩,
 ⟨(some 14), .bin .geq (.t 13) (.c (.d (.sc (.int .u64 256)))), none, 0, 0⟩] false)
 (.cond (.t 14)
 (.seq
 (.region [⟨(some 15), .mov (.t 0), none, 0, 0⟩,
 ⟨(some 16), .bin .shr (.t 15) (.c (.d (.sc (.int .u64 8)))), none, 0, 0⟩,
 ⟨(some 0), .mov (.t 16), none, 0, 0⟩] false)
 (.region [⟨(some 17), .mov (.t 2), none, 0, 0⟩,
 ⟨(some 18), .bin .add (.t 17) (.c (.d (.sc (.int .i64 8)))), none, 0, 0⟩,
 ⟨(some 2), .mov (.t 18), none, 0, 0⟩] false))
 .skip))
 (.seq
 (.region [⟨(some 19), .mov (.t 2), none, 0, 0⟩,
 ⟨(some 20), .mov (.t 0), none, 0, 0⟩,
 ⟨(some 21), .conv .u8 (.t 20), none, 0, 0⟩,
 ⟨(some 22), .indexS (.c (.d (.sc (.string ⟨#[0, 1, 2, 2, 3, 3, 3, 3, 4, 4, 4, 4, 4, 4, 4, 4, 5, 5, 5, 5, 5, 5, 5, 5, 5, 5, 5, 5, 5, 5, 5, 5, 6, 6, 6, 6, 6, 6, 6, 6, 6, 6, 6, 6, 6, 6, 6, 6, 6, 6, 6, 6, 6, 6, 6, 6, 6, 6, 6, 6, 6, 6, 6, 6, 7, 7, 7, 7, 7, 7, 7, 7, 7, 7, 7, 7, 7, 7, 7, 7, 7, 7, 7, 7, 7, 7, 7, 7, 7, 7, 7, 7, 7, 7, 7, 7, 7, 7, 7, 7, 7, 7, 7, 7, 7, 7, 7, 7, 7, 7, 7, 7, 7, 7, 7, 7, 7, 7, 7, 7, 7, 7, 7, 7, 7, 7, 7, 7, 8, 8, 8, 8, 8, 8, 8, 8, 8, 8, 8, 8, 8, 8, 8, 8, 8, 8, 8, 8, 8, 8, 8, 8, 8, 8, 8, 8, 8, 8, 8, 8, 8, 8, 8, 8, 8, 8, 8, 8, 8, 8, 8, 8, 8, 8, 8, 8, 8, 8, 8, 8, 8, 8, 8, 8, 8, 8, 8, 8, 8, 8, 8, 8, 8, 8, 8, 8, 8, 8, 8, 8, 8, 8, 8, 8, 8, 8, 8, 8, 8, 8, 8, 8, 8, 8, 8, 8, 8, 8, 8, 8, 8, 8, 8, 8, 8, 8, 8, 8, 8, 8, 8, 8, 8, 8, 8, 8, 8, 8, 8, 8, 8, 8, 8, 8, 8, 8, 8, 8, 8, 8, 8, 8, 8, 8, 8, 8]⟩)))) (.t 21), none, 0, 0⟩,
 ⟨(some 23), .conv .i64 (.t 22), none, 0, 0⟩,
 ⟨(some 24), .bin .add (.t 19) (.t 23), none, 0, 0⟩,
 ⟨(some 2), .mov (.t 24), none, 0, 0⟩] false)
 .ret))))), false⟩
/-- slices.EqualFunc[[]wreckage/api.Value,[]wreckage/api.Value,wreckage/api.Value,wreckage/api.Value] -/
def t98 : AFn := ⟨3, 32, [.t 6],
 (.seq
 (.region [⟨(some 6), .mov (.c (.d (.sc (.bool false)))), none, 0, 0⟩] false)
 (.seq
 (.seq
 (.region [⟨(some 10), .mov (.t 0), none, 0, 0⟩,
 ⟨(some 11), .len (.t 10), none, 0, 0⟩,
 ⟨(some 12), .mov (.t 1), none, 0, 0⟩,
 ⟨(some 13), .len (.t 12), none, 0, 0⟩,
 ⟨(some 14), .bin .neq (.t 11) (.t 13), none, 0, 0⟩] false)
 (.cond (.t 14)
 (.seq
 (.region [⟨(some 6), .mov (.c (.d (.sc (.bool false)))), none, 0, 0⟩] false)
 .ret)
 .skip))
 (.seq
 (.seq
 (.region [⟨(some 15), .mov (.t 0), none, 0, 0⟩,
 ⟨(some 16), .len (.t 15), none, 0, 0⟩,
 ⟨(some 17), .mov (.c (.d (.sc (.int .i64 0)))), none, 0, 0⟩] false)
 (.block 0
 (.loop
 (.seq
 (.region [⟨(some 18), .bin .lss (.t 17) (.t 16), none, 0, 0⟩] false)
 (.seq
 (.cond (.t 18)
 .skip
 (.exit 0))
 (.seq
 (.block 1
 (.seq
 (.region [⟨(some 19), .mov (.t 17), none, 0, 0⟩,
 ⟨(some 20), .indexAddr 5 (.t 15) (.t 17), none, 0, 0⟩,
 ⟨(some 21), .load 5 true (.t 20), none, 0, 0⟩,
 ⟨(some 8), .alloc [(.d (.sc (.int .u8 0))), (.d (.sc (.int .i64 0))), (.d (.sc (.string ⟨#[]⟩))), (.own [] .full), (.d (.sc (.bool false)))], none, 0, 0⟩,
 ⟨(some 7), .mov (.t 19), none, 0, 0⟩,
 ⟨none, .store 5 (.t 8) (.t 21), none, 0, 0⟩] false)
 (.seq
 (.region [⟨(some 22), .mov (.t 1), none, 0, 0⟩,
 ⟨(some 23), .mov (.t 7), none, 0, 0⟩,
 ⟨(some 24), .indexAddr 5 (.t 22) (.t 23), none, 0, 0⟩,
 ⟨(some 25), .load 5 true (.t 24), none, 0, 0⟩,
 ⟨(some 9), .alloc [(.d (.sc (.int .u8 0))), (.d (.sc (.int .i64 0))), (.d (.sc (.string ⟨#[]⟩))), (.own [] .full), (.d (.sc (.bool false)))], none, 0, 0⟩,
 ⟨none, .store 5 (.t 9) (.t 25), none, 0, 0⟩] false)
 (.seq
 (.region [⟨(some 26), .mov (.t 2), none, 0, 0⟩,
 ⟨(some 27), .load 5 true (.t 8), none, 0, 0⟩,
 ⟨(some 28), .load 5 true (.t 9), none, 0, 0⟩,
 ⟨(some 29), .callv (.t 26) [(.t 27), (.t 28)], none, 0, 0⟩,
 ⟨(some 30), .un .not (.t 29), none, 0, 0⟩] false)
 (.cond (.t 30)
 (.seq
 (.region [⟨(some 6), .mov (.c (.d (.sc (.bool false)))), none, 0, 0⟩] false)
 .ret)
 .skip)))))
 (.region [⟨(some 31), .bin .add (.t 17) (.c (.d (.sc (.int .i64 1)))), none, 0, 0⟩,
 ⟨(some 17), .mov (.t 31), none, 0, 0⟩] false)))))))
 (.seq
 (.region [⟨(some 6), .mov (.c (.d (.sc (.bool true)))), none, 0, 0⟩] false)
 .ret)))), true⟩
/-- slices.siftDownOrdered[int] -/
def t99 : AFn := ⟨4, 76, [],
 (.seq
 (.region [⟨(some 10), .mov (.t 1), none, 0, 0⟩,
 ⟨(some 8), .mov (.t 10), none, 0, 0⟩] false)
 (.block 0
 (.loop
 (.block 1
 (.seq
 (.region [⟨(some 11), .mov (.t 8), none, 0, 0⟩,
 ⟨(some 12), .bin .mul (.c (.d (.sc (.int .i64 2)))) (.t 11), none, 0, 0⟩,
 ⟨(some 13), .bin .add (.t 12) (.c (.d (.sc (.int .i64 1)))), none, 0, 0⟩,
 ⟨(some 9), .mov (.t 13), none, 0, 0⟩] false)
 (.seq
 (.seq
 (.region [⟨(some 14), .mov (.t 9), none, 0, 0⟩,
 ⟨(some 15), .mov (.t 2), none, 0, 0⟩,
 ⟨(some 16), .bin .geq (.t 14) (.t 15), none, 0, 0⟩] false)
 (.cond (.t 16)
 (.exit 0)
 .skip))
 (.seq
 (.seq
 (.region [⟨(some 17), .mov (.t 9), none, 0, 0⟩,
 ⟨(some 18), .bin .add (.t 17) (.c (.d (.sc (.int .i64 1)))), none, 1, 0⟩,
 ⟨(some 19), .mov (.t 2), none, 0, 0⟩,
 ⟨(some 20), .bin .lss (.t 18) (.t 19), none, 7, 0⟩,
 ⟨(some 21), .mov (.t 20), none, 15, 0⟩,
 ⟨(some 22), .mov (.t 0), (some (21, true)), 31, 0⟩,
 ⟨(some 23), .mov (.t 3), (some (21, true)), 31, 0⟩,
 ⟨(some 24), .mov (.t 9), (some (21, true)), 31, 0⟩,
 ⟨(some 25), .bin .add (.t 23) (.t 24), (some (21, true)), 223, 0⟩,
 ⟨(some 26), .indexAddr 1 (.t 22) (.t 25), (some (21, true)), 511, 0⟩,
 ⟨(some 27), .load 1 false (.t 26), (some (21, true)), 1023, 0⟩,
 ⟨(some 28), .mov (.t 0), (some (21, true)), 31, 0⟩,
 ⟨(some 29), .mov (.t 3), (some (21, true)), 31, 0⟩,
 ⟨(some 30), .mov (.t 9), (some (21, true)), 31, 0⟩,
 ⟨(some 31), .bin .add (.t 29) (.t 30), (some (21, true)), 12319, 0⟩,
 ⟨(some 32), .bin .add (.t 31) (.c (.d (.sc (.int .i64 1)))), (some (21, true)), 28703, 0⟩,
 ⟨(some 33), .indexAddr 1 (.t 28) (.t 32), (some (21, true)), 63519, 0⟩,
 ⟨(some 34), .load 1 false (.t 33), (some (21, true)), 129055, 0⟩,
 ⟨(some 35), .callF 93 [(.t 27), (.t 34)], (some (21, true)), 262143, 0⟩,
 ⟨(some 36), .pick (.t 21) (.t 35) (.c (.d (.sc (.bool false)))), none, 524287, 0⟩] true)
 (.cond (.t 36)
 (.region [⟨(some 37), .mov (.t 9), none, 0, 0⟩,
 ⟨(some 38), .bin .add (.t 37) (.c (.d (.sc (.int .i64 1)))), none, 0, 0⟩,
 ⟨(some 9), .mov (.t 38), none, 0, 0⟩] false)
 .skip))
 (.seq
 (.seq
 (.region [⟨(some 39), .mov (.t 0), none, 0, 0⟩,
 ⟨(some 40), .mov (.t 3), none, 0, 0⟩,
 ⟨(some 41), .mov (.t 8), none, 0, 0⟩,
 ⟨(some 42), .bin .add (.t 40) (.t 41), none, 6, 0⟩,
 ⟨(some 43), .indexAddr 1 (.t 39) (.t 42), none, 15, 0⟩,
 ⟨(some 44), .load 1 false (.t 43), none, 31, 0⟩,
 ⟨(some 45), .mov (.t 0), none, 0, 0⟩,
 ⟨(some 46), .mov (.t 3), none, 0, 0⟩,
 ⟨(some 47), .mov (.t 9), none, 0, 0⟩,
 ⟨(some 48), .bin .add (.t 46) (.t 47), none, 384, 0⟩,
 ⟨(some 49), .indexAddr 1 (.t 45) (.t 48), none, 960, 0⟩,
 ⟨(some 50), .load 1 false (.t 49), none, 1984, 0⟩,
 ⟨(some 51), .callF 93 [(.t 44), (.t 50)], none, 4095, 0⟩,
 ⟨(some 52), .un .not (.t 51), none, 8191, 0⟩] true)
 (.cond (.t 52)
 .ret
 .skip))
 (.seq
 (.region [⟨(some 53), .mov (.t 0), none, 0, 0⟩,
 ⟨(some 54), .mov (.t 3), none, 0, 0⟩,
 ⟨(some 55), .mov (.t 8), none, 0, 0⟩,
 ⟨(some 56), .bin .add (.t 54) (.t 55), none, 6, 0⟩,
 ⟨(some 57), .mov (.t 0), none, 0, 0⟩,
 ⟨(some 58), .mov (.t 3), none, 0, 0⟩,
 ⟨(some 59), .mov (.t 9), none, 0, 0⟩,
 ⟨(some 60), .bin .add (.t 58) (.t 59), none, 96, 0⟩,
 ⟨(some 61), .mov (.t 0), none, 0, 0⟩,
 ⟨(some 62), .mov (.t 3), none, 0, 0⟩,
 ⟨(some 63), .mov (.t 9), none, 0, 0⟩,
 ⟨(some 64), .bin .add (.t 62) (.t 63), none, 1536, 0⟩,
 ⟨(some 65), .indexAddr 1 (.t 61) (.t 64), none, 3840, 0⟩,
 ⟨(some 66), .load 1 false (.t 65), none, 7936, 0⟩,
 ⟨(some 67), .mov (.t 0), none, 0, 0⟩,
 ⟨(some 68), .mov (.t 3), none, 0, 0⟩,
 ⟨(some 69), .mov (.t 8), none, 0, 0⟩,
 ⟨(some 70), .bin .add (.t 68) (.t 69), none, 98304, 0⟩,
 ⟨(some 71), .indexAddr 1 (.t 67) (.t 70), none, 245760, 0⟩,
 ⟨(some 72), .load 1 false (.t 71), none, 507904, 0⟩,
 ⟨(some 73), .indexAddr 1 (.t 53) (.t 56), none, 1048335, 0⟩,
 ⟨none, .store 1 (.t 73) (.t 66), none, 2096911, 0⟩,
 ⟨(some 74), .indexAddr 1 (.t 57) (.t 60), none, 4194303, 0⟩,
 ⟨none, .store 1 (.t 74) (.t 72), none, 8388607, 0⟩] true)
 (.region [⟨(some 75), .mov (.t 9), none, 0, 0⟩,
 ⟨(some 8), .mov (.t 75), none, 0, 0⟩] false)))))))))), true⟩
/-- slices.nextPowerOfTwo -/
def t100 : AFn := ⟨1, 7, [.t 2],
 (.seq
 (.region [⟨(some 2), .mov (.c (.d (.sc (.int .u64 0)))), none, 0, 0⟩] false)
 (.seq
 (.region [⟨(some 3), .mov (.t 0), none, 0, 0⟩,
 ⟨(some 4), .conv .u64 (.t 3), none, 0, 0⟩,
 ⟨(some 5), .callF 76 [(.t 4)], none, 0, 0⟩,
 ⟨(some 6), .bin .shl (.c (.d (.sc (.int .u64 1)))) (.t 5), none, 0, 0⟩,
 ⟨(some 2), .mov (.t 6), none, 0, 0⟩] false)
 .ret)), false⟩
/-- (*slices.xorshift).Next -/
def t101 : AFn := ⟨1, 33, [.t 2],
 (.seq
 (.region [⟨(some 2), .mov (.c (.d (.sc (.int .u64 0)))), none, 0, 0⟩] false)
 (.seq
 (.region [⟨(some 3), .mov (.t 0), none, 0, 0⟩,
 ⟨(some 4), .nilCheck (.t 3), none, 1, 0⟩,
 ⟨(some 5), .load 1 false (.t 4), none, 3, 0⟩,
 ⟨(some 6), .mov (.t 0), none, 0, 0⟩,
 ⟨(some 7), .nilCheck (.t 6), none, 8, 0⟩,
 ⟨(some 8), .load 1 false (.t 7), none, 24, 0⟩,
 ⟨(some 9), .bin .shl (.t 8) (.c (.d (.sc (.int .u64 13)))), none, 56, 0⟩,
 ⟨(some 10), .bin .xor (.t 5) (.t 9), none, 127, 0⟩,
 ⟨(some 11), .nilCheck (.t 3), none, 255, 0⟩,
 ⟨none, .store 1 (.t 11) (.t 10), none, 511, 0⟩] true)
 (.seq
 (.region [⟨(some 12), .mov (.t 0), none, 0, 0⟩,
 ⟨(some 13), .nilCheck (.t 12), none, 1, 0⟩,
 ⟨(some 14), .load 1 false (.t 13), none, 3, 0⟩,
 ⟨(some 15), .mov (.t 0), none, 0, 0⟩,
 ⟨(some 16), .nilCheck (.t 15), none, 8, 0⟩,
 ⟨(some 17), .load 1 false (.t 16), none, 24, 0⟩,
 ⟨(some 18), .bin .shr (.t 17) (.c (.d (.sc (.int .u64 7)))), none, 56, 0⟩,
 ⟨(some 19), .bin .xor (.t 14) (.t 18), none, 127, 0⟩,
 ⟨(some 20), .nilCheck (.t 12), none, 255, 0⟩,
 ⟨none, .store 1 (.t 20) (.t 19), none, 511, 0⟩] true)
 (.seq
 (.region [⟨(some 21), .mov (.t 0), none, 0, 0⟩,
 ⟨(some 22), .nilCheck (.t 21), none, 1, 0⟩,
 ⟨(some 23), .load 1 false (.t 22), none, 3, 0⟩,
 ⟨(some 24), .mov (.t 0), none, 0, 0⟩,
 ⟨(some 25), .nilCheck (.t 24), none, 8, 0⟩,
 ⟨(some 26), .load 1 false (.t 25), none, 24, 0⟩,
 ⟨(some 27), .bin .shl (.t 26) (.c (.d (.sc (.int .u64 17)))), none, 56, 0⟩,
 ⟨(some 28), .bin .xor (.t 23) (.t 27), none, 127, 0⟩,
 ⟨(some 29), .nilCheck (.t 21), none, 255, 0⟩,
 ⟨none, .store 1 (.t 29) (.t 28), none, 511, 0⟩] true)
 (.seq
 (.region [⟨(some 30), .mov (.t 0), none, 0, 0⟩,
 ⟨(some 31), .nilCheck (.t 30), none, 0, 0⟩,
 ⟨(some 32), .load 1 false (.t 31), none, 0, 0⟩,
 ⟨(some 2), .mov (.t 32), none, 0, 0⟩] false)
 .ret))))), true⟩
/-- slices.medianAdjacentOrdered[int] -/
def t102 : AFn := ⟨3, 15, [.t 6],
 (.seq
 (.region [⟨(some 6), .mov (.c (.d (.sc (.int .i64 0)))), none, 0, 0⟩] false)
 (.seq
 (.region [⟨(some 7), .mov (.t 0), none, 0, 0⟩,
 ⟨(some 8), .mov (.t 1), none, 0, 0⟩,
 ⟨(some 9), .bin .sub (.t 8) (.c (.d (.sc (.int .i64 1)))), none, 0, 0⟩,
 ⟨(some 10), .mov (.t 1), none, 0, 0⟩,
 ⟨(some 11), .mov (.t 1), none, 0, 0⟩,
 ⟨(some 12), .bin .add (.t 11) (.c (.d (.sc (.int .i64 1)))), none, 0, 0⟩,
 ⟨(some 13), .mov (.t 2), none, 0, 0⟩,
 ⟨(some 14), .callF 103 [(.t 7), (.t 9), (.t 10), (.t 12), (.t 13)], none, 0, 0⟩,
 ⟨(some 6), .mov (.t 14), none, 0, 0⟩] false)
 .ret)), true⟩
/-- slices.medianOrdered[int] -/
def t103 : AFn := ⟨5, 36, [.t 10],
 (.seq
 (.region [⟨(some 10), .mov (.c (.d (.sc (.int .i64 0)))), none, 0, 0⟩] false)
 (.seq
 (.region [⟨(some 12), .mov (.t 0), none, 0, 0⟩,
 ⟨(some 13), .mov (.t 1), none, 0, 0⟩,
 ⟨(some 14), .mov (.t 2), none, 0, 0⟩,
 ⟨(some 15), .mov (.t 4), none, 0, 0⟩,
 ⟨(some 16), .callF 105 [(.t 12), (.t 13), (.t 14), (.t 15)], none, 0, 0⟩,
 ⟨(some 11), .mov (.t 16), none, 0, 0⟩,
 ⟨(some 17), .extract (.t 11) 0, none, 0, 0⟩,
 ⟨(some 18), .extract (.t 11) 1, none, 0, 0⟩,
 ⟨(some 1), .mov (.t 17), none, 0, 0⟩,
 ⟨(some 2), .mov (.t 18), none, 0, 0⟩] false)
 (.seq
 (.region [⟨(some 20), .mov (.t 0), none, 0, 0⟩,
 ⟨(some 21), .mov (.t 2), none, 0, 0⟩,
 ⟨(some 22), .mov (.t 3), none, 0, 0⟩,
 ⟨(some 23), .mov (.t 4), none, 0, 0⟩,
 ⟨(some 24), .callF 105 [(.t 20), (.t 21), (.t 22), (.t 23)], none, 0, 0⟩,
 ⟨(some 19), .mov (.t 24), none, 0, 0⟩,
 ⟨(some 25), .extract (.t 19) 0, none, 0, 0⟩,
 ⟨(some 26), .extract (.t 19) 1, none, 0, 0⟩,
 ⟨(some 2), .mov (.t 25), none, 0, 0⟩,
 ⟨(some 3), .mov (.t 26), none, 0, 0⟩] false)
 (.seq
 (.region [⟨(some 28), .mov (.t 0), none, 0, 0⟩,
 ⟨(some 29), .mov (.t 1), none, 0, 0⟩,
 ⟨(some 30), .mov (.t 2), none, 0, 0⟩,
 ⟨(some 31), .mov (.t 4), none, 0, 0⟩,
 ⟨(some 32), .callF 105 [(.t 28), (.t 29), (.t 30), (.t 31)], none, 0, 0⟩,
 ⟨(some 27), .mov (.t 32), none, 0, 0⟩,
 ⟨(some 33), .extract (.t 27) 0, none, 0, 0⟩,
 ⟨(some 34), .extract (.t 27) 1, none, 0, 0⟩,
 ⟨(some 1), .mov (.t 33), none, 0, 0⟩,
 ⟨(some 2), .mov (.t 34), none, 0, 0⟩] false)
 (.seq
 (.region [⟨(some 35), .mov (.t 2), none, 0, 0⟩,
 ⟨(some 10), .mov (.t 35), none, 0, 0⟩] false)
 .ret))))), true⟩
/-- cmp.isNaN[int] -/
def t104 : AFn := ⟨1, 6, [.t 2],
 (.seq
 (.region [⟨(some 2), .mov (.c (.d (.sc (.bool false)))), none, 0, 0⟩] false)
 (.seq
 (.region [⟨(some 3), .mov (.t 0), none, 0, 0⟩,
 ⟨(some 4), .mov (.t 0), none, 0, 0⟩,
 ⟨(some 5), .bin .neq (.t 3) (.t 4), none, 0, 0⟩,
 ⟨(some 2), .mov (.t 5), none, 0, 0⟩] false)
 .ret)), false⟩
/-- slices.order2Ordered[int] -/
def t105 : AFn := ⟨4, 28, [.t 8, .t 9],
 (.seq
 (.region [⟨(some 8), .mov (.c (.d (.sc (.int .i64 0)))), none, 0, 0⟩,
 ⟨(some 9), .mov (.c (.d (.sc (.int .i64 0)))), none, 0, 0⟩] false)
 (.seq
 (.seq
 (.region [⟨(some 10), .mov (.t 0), none, 0, 0⟩,
 ⟨(some 11), .mov (.t 2), none, 0, 0⟩,
 ⟨(some 12), .indexAddr 1 (.t 10) (.t 11), none, 3, 0⟩,
 ⟨(some 13), .load 1 false (.t 12), none, 7, 0⟩,
 ⟨(some 14), .mov (.t 0), none, 0, 0⟩,
 ⟨(some 15), .mov (.t 1), none, 0, 0⟩,
 ⟨(some 16), .indexAddr 1 (.t 14) (.t 15), none, 48, 0⟩,
 ⟨(some 17), .load 1 false (.t 16), none, 112, 0⟩,
 ⟨(some 18), .callF 93 [(.t 13), (.t 17)], none, 255, 0⟩] true)
 (.cond (.t 18)
 (.seq
 (.region [⟨(some 19), .mov (.t 3), none, 0, 0⟩,
 ⟨(some 20), .nilCheck (.t 19), none, 0, 0⟩,
 ⟨(some 21), .load 1 false (.t 20), none, 0, 0⟩,
 ⟨(some 22), .bin .add (.t 21) (.c (.d (.sc (.int .i64 1)))), none, 0, 0⟩,
 ⟨(some 23), .nilCheck (.t 19), none, 0, 0⟩,
 ⟨none, .store 1 (.t 23) (.t 22), none, 0, 0⟩] false)
 (.seq
 (.region [⟨(some 24), .mov (.t 2), none, 0, 0⟩,
 ⟨(some 25), .mov (.t 1), none, 0, 0⟩,
 ⟨(some 8), .mov (.t 24), none, 0, 0⟩,
 ⟨(some 9), .mov (.t 25), none, 0, 0⟩] false)
 .ret))
 .skip))
 (.seq
 (.region [⟨(some 26), .mov (.t 1), none, 0, 0⟩,
 ⟨(some 27), .mov (.t 2), none, 0, 0⟩,
 ⟨(some 8), .mov (.t 26), none, 0, 0⟩,
 ⟨(some 9), .mov (.t 27), none, 0, 0⟩] false)
 .ret))), true⟩
def md : Nat → Eng.Mode := fun f => match f with
 | 8 => ⟨[], false⟩
 | 10 => ⟨[(13, 2)], false⟩
 | 12 => ⟨[(8, 2)], false⟩
 | 14 => ⟨[], false⟩
 | 15 => ⟨[], false⟩
 | 18 => ⟨[(11, 2), (22, 327684)], false⟩
 | 20 => ⟨[], false⟩
 | 21 => ⟨[], false⟩
 | 22 => ⟨[(31, 1)], false⟩
 | 23 => ⟨[], false⟩
 | 28 => ⟨[], false⟩
 | 29 => ⟨[], false⟩
 | 30 => ⟨[], false⟩
 | 31 => ⟨[], false⟩
 | 32 => ⟨[], false⟩
 | 33 => ⟨[(16, 1), (13, 1), (10, 1), (32, 1)], false⟩
 | 36 => ⟨[], true⟩
 | 37 => ⟨[], false⟩
 | 38 => ⟨[], false⟩
 | 39 => ⟨[], false⟩
 | 40 => ⟨[], false⟩
 | 41 => ⟨[], false⟩
 | 42 => ⟨[(7, 1)], false⟩
 | 43 => ⟨[(45, 2), (130, 2), (39, 1)], true⟩
 | 44 => ⟨[], false⟩
 | 45 => ⟨[], false⟩
 | 46 => ⟨[], true⟩
 | 47 => ⟨[], true⟩
 | 48 => ⟨[], false⟩
 | 49 => ⟨[], false⟩
 | 56 => ⟨[], true⟩
 | 57 => ⟨[], false⟩
 | 58 => ⟨[], true⟩
 | 59 => ⟨[], false⟩
 | 60 => ⟨[], true⟩
 | 61 => ⟨[], false⟩
 | 62 => ⟨[], true⟩
 | 63 => ⟨[], false⟩
 | 68 => ⟨[(7, 1)], false⟩
 | 70 => ⟨[], true⟩
 | 71 => ⟨[], true⟩
 | 72 => ⟨[], false⟩
 | 74 => ⟨[(24, 262145)], false⟩
 | 75 => ⟨[], true⟩
 | 76 => ⟨[], false⟩
 | 77 => ⟨[], false⟩
 | 80 => ⟨[], true⟩
 | 81 => ⟨[], true⟩
 | 82 => ⟨[], false⟩
 | 83 => ⟨[], false⟩
 | 85 => ⟨[], true⟩
 | 86 => ⟨[(22, 1)], true⟩
 | 87 => ⟨[], true⟩
 | 88 => ⟨[], true⟩
 | 89 => ⟨[], true⟩
 | 90 => ⟨[], true⟩
 | 91 => ⟨[], true⟩
 | 92 => ⟨[], true⟩
 | 93 => ⟨[], false⟩
 | 94 => ⟨[], true⟩
 | 95 => ⟨[], true⟩
 | 96 => ⟨[], false⟩
 | 97 => ⟨[], false⟩
 | 98 => ⟨[], true⟩
 | 99 => ⟨[], true⟩
 | 100 => ⟨[], false⟩
 | 101 => ⟨[], true⟩
 | 102 => ⟨[], true⟩
 | 103 => ⟨[], true⟩
 | 104 => ⟨[], false⟩
 | 105 => ⟨[], true⟩
 | _ => ⟨[], false⟩
def lib : Nat → Option TypeId := fun f => match f with
 | 64 => some 42
 | 65 => some 43
 | 66 => some 44
 | 67 => some 49
 | 73 => some 22
 | 84 => some 86
 | _ => none
def tabL : List (Nat × AFn) := [(8, t8), (10, t10), (12, t12), (14, t14), (15, t15), (18, t18), (20, t20), (21, t21), (22, t22), (23, t23), (28, t28), (29, t29), (30, t30), (31, t31), (32, t32), (33, t33), (36, t36), (37, t37), (38, t38), (39, t39), (40, t40), (41, t41), (42, t42), (43, t43), (44, t44), (45, t45), (46, t46), (47, t47), (48, t48), (49, t49), (56, t56), (57, t57), (58, t58), (59, t59), (60, t60), (61, t61), (62, t62), (63, t63), (68, t68), (70, t70), (71, t71), (72, t72), (74, t74), (75, t75), (76, t76), (77, t77), (80, t80), (81, t81), (82, t82), (83, t83), (85, t85), (86, t86), (87, t87), (88, t88), (89, t89), (90, t90), (91, t91), (92, t92), (93, t93), (94, t94), (95, t95), (96, t96), (97, t97), (98, t98), (99, t99), (100, t100), (101, t101), (102, t102), (103, t103), (104, t104), (105, t105)]
def tab : Nat → Option AFn := Go.Eng.tabAt tabL
theorem tab8 : fnP Try.prog lib md 8 = some t8 := by kernel_rfl
theorem tab10 : fnP Try.prog lib md 10 = some t10 := by kernel_rfl
theorem tab12 : fnP Try.prog lib md 12 = some t12 := by kernel_rfl
theorem tab14 : fnP Try.prog lib md 14 = some t14 := by kernel_rfl
theorem tab15 : fnP Try.prog lib md 15 = some t15 := by kernel_rfl
theorem tab18 : fnP Try.prog lib md 18 = some t18 := by kernel_rfl
theorem tab20 : fnP Try.prog lib md 20 = some t20 := by kernel_rfl
theorem tab21 : fnP Try.prog lib md 21 = some t21 := by kernel_rfl
theorem tab22 : fnP Try.prog lib md 22 = some t22 := by kernel_rfl
theorem tab23 : fnP Try.prog lib md 23 = some t23 := by kernel_rfl
theorem tab28 : fnP Try.prog lib md 28 = some t28 := by kernel_rfl
theorem tab29 : fnP Try.prog lib md 29 = some t29 := by kernel_rfl
theorem tab30 : fnP Try.prog lib md 30 = some t30 := by kernel_rfl
theorem tab31 : fnP Try.prog lib md 31 = some t31 := by kernel_rfl
theorem tab32 : fnP Try.prog lib md 32 = some t32 := by kernel_rfl
theorem tab33 : fnP Try.prog lib md 33 = some t33 := by kernel_rfl
theorem tab36 : fnP Try.prog lib md 36 = some t36 := by kernel_rfl
theorem tab37 : fnP Try.prog lib md 37 = some t37 := by kernel_rfl
theorem tab38 : fnP Try.prog lib md 38 = some t38 := by kernel_rfl
theorem tab39 : fnP Try.prog lib md 39 = some t39 := by kernel_rfl
theorem tab40 : fnP Try.prog lib md 40 = some t40 := by kernel_rfl
theorem tab41 : fnP Try.prog lib md 41 = some t41 := by kernel_rfl
theorem tab42 : fnP Try.prog lib md 42 = some t42 := by kernel_rfl
theorem tab43 : fnP Try.prog lib md 43 = some t43 := by kernel_rfl
theorem tab44 : fnP Try.prog lib md 44 = some t44 := by kernel_rfl
theorem tab45 : fnP Try.prog lib md 45 = some t45 := by kernel_rfl
theorem tab46 : fnP Try.prog lib md 46 = some t46 := by kernel_rfl
theorem tab47 : fnP Try.prog lib md 47 = some t47 := by kernel_rfl
theorem tab48 : fnP Try.prog lib md 48 = some t48 := by kernel_rfl
theorem tab49 : fnP Try.prog lib md 49 = some t49 := by kernel_rfl
theorem tab56 : fnP Try.prog lib md 56 = some t56 := by kernel_rfl
theorem tab57 : fnP Try.prog lib md 57 = some t57 := by kernel_rfl
theorem tab58 : fnP Try.prog lib md 58 = some t58 := by kernel_rfl
theorem tab59 : fnP Try.prog lib md 59 = some t59 := by kernel_rfl
theorem tab60 : fnP Try.prog lib md 60 = some t60 := by kernel_rfl
theorem tab61 : fnP Try.prog lib md 61 = some t61 := by kernel_rfl
theorem tab62 : fnP Try.prog lib md 62 = some t62 := by kernel_rfl
theorem tab63 : fnP Try.prog lib md 63 = some t63 := by kernel_rfl
theorem tab68 : fnP Try.prog lib md 68 = some t68 := by kernel_rfl
theorem tab70 : fnP Try.prog lib md 70 = some t70 := by kernel_rfl
theorem tab71 : fnP Try.prog lib md 71 = some t71 := by kernel_rfl
theorem tab72 : fnP Try.prog lib md 72 = some t72 := by kernel_rfl
theorem tab74 : fnP Try.prog lib md 74 = some t74 := by kernel_rfl
theorem tab75 : fnP Try.prog lib md 75 = some t75 := by kernel_rfl
theorem tab76 : fnP Try.prog lib md 76 = some t76 := by kernel_rfl
theorem tab77 : fnP Try.prog lib md 77 = some t77 := by kernel_rfl
theorem tab80 : fnP Try.prog lib md 80 = some t80 := by kernel_rfl
theorem tab81 : fnP Try.prog lib md 81 = some t81 := by kernel_rfl
theorem tab82 : fnP Try.prog lib md 82 = some t82 := by kernel_rfl
theorem tab83 : fnP Try.prog lib md 83 = some t83 := by kernel_rfl
theorem tab85 : fnP Try.prog lib md 85 = some t85 := by kernel_rfl
theorem tab86 : fnP Try.prog lib md 86 = some t86 := by kernel_rfl
theorem tab87 : fnP Try.prog lib md 87 = some t87 := by kernel_rfl
theorem tab88 : fnP Try.prog lib md 88 = some t88 := by kernel_rfl
theorem tab89 : fnP Try.prog lib md 89 = some t89 := by kernel_rfl
theorem tab90 : fnP Try.prog lib md 90 = some t90 := by kernel_rfl
theorem tab91 : fnP Try.prog lib md 91 = some t91 := by kernel_rfl
theorem tab92 : fnP Try.prog lib md 92 = some t92 := by kernel_rfl
theorem tab93 : fnP Try.prog lib md 93 = some t93 := by kernel_rfl
theorem tab94 : fnP Try.prog lib md 94 = some t94 := by kernel_rfl
theorem tab95 : fnP Try.prog lib md 95 = some t95 := by kernel_rfl
theorem tab96 : fnP Try.prog lib md 96 = some t96 := by kernel_rfl
theorem tab97 : fnP Try.prog lib md 97 = some t97 := by kernel_rfl
theorem tab98 : fnP Try.prog lib md 98 = some t98 := by kernel_rfl
theorem tab99 : fnP Try.prog lib md 99 = some t99 := by kernel_rfl
theorem tab100 : fnP Try.prog lib md 100 = some t100 := by kernel_rfl
theorem tab101 : fnP Try.prog lib md 101 = some t101 := by kernel_rfl
theorem tab102 : fnP Try.prog lib md 102 = some t102 := by kernel_rfl
theorem tab103 : fnP Try.prog lib md 103 = some t103 := by kernel_rfl
theorem tab104 : fnP Try.prog lib md 104 = some t104 := by kernel_rfl
theorem tab105 : fnP Try.prog lib md 105 = some t105 := by kernel_rfl
theorem tabOK : ∀ f fn, tab f = some fn → fnP Try.prog lib md f = some fn := Go.Eng.tabAt_ok <| .cons tab8 <| .cons tab10 <| .cons tab12 <| .cons tab14 <| .cons tab15 <| .cons tab18 <| .cons tab20 <| .cons tab21 <| .cons tab22 <| .cons tab23 <| .cons tab28 <| .cons tab29 <| .cons tab30 <| .cons tab31 <| .cons tab32 <| .cons tab33 <| .cons tab36 <| .cons tab37 <| .cons tab38 <| .cons tab39 <| .cons tab40 <| .cons tab41 <| .cons tab42 <| .cons tab43 <| .cons tab44 <| .cons tab45 <| .cons tab46 <| .cons tab47 <| .cons tab48 <| .cons tab49 <| .cons tab56 <| .cons tab57 <| .cons tab58 <| .cons tab59 <| .cons tab60 <| .cons tab61 <| .cons tab62 <| .cons tab63 <| .cons tab68 <| .cons tab70 <| .cons tab71 <| .cons tab72 <| .cons tab74 <| .cons tab75 <| .cons tab76 <| .cons tab77 <| .cons tab80 <| .cons tab81 <| .cons tab82 <| .cons tab83 <| .cons tab85 <| .cons tab86 <| .cons tab87 <| .cons tab88 <| .cons tab89 <| .cons tab90 <| .cons tab91 <| .cons tab92 <| .cons tab93 <| .cons tab94 <| .cons tab95 <| .cons tab96 <| .cons tab97 <| .cons tab98 <| .cons tab99 <| .cons tab100 <| .cons tab101 <| .cons tab102 <| .cons tab103 <| .cons tab104 <| .cons tab105 <| .nil
theorem clone64 : IsClone Try.prog 64 42 := ⟨_, Try.func64, by kernel_rfl, by kernel_rfl, by kernel_rfl, by kernel_rfl⟩
theorem clone65 : IsClone Try.prog 65 43 := ⟨_, Try.func65, by kernel_rfl, by kernel_rfl, by kernel_rfl, by kernel_rfl⟩
theorem clone66 : IsClone Try.prog 66 44 := ⟨_, Try.func66, by kernel_rfl, by kernel_rfl, by kernel_rfl, by kernel_rfl⟩
theorem clone67 : IsClone Try.prog 67 49 := ⟨_, Try.func67, by kernel_rfl, by kernel_rfl, by kernel_rfl, by kernel_rfl⟩
theorem clone73 : IsClone Try.prog 73 22 := ⟨_, Try.func73, by kernel_rfl, by kernel_rfl, by kernel_rfl, by kernel_rfl⟩
theorem clone84 : IsClone Try.prog 84 86 := ⟨_, Try.func84, by kernel_rfl, by kernel_rfl, by kernel_rfl, by kernel_rfl⟩
theorem libOK : ∀ f T, lib f = some T → IsClone Try.prog f T := by
  intro f T h
  unfold lib at h
  split at h
  · injection h with h; subst h; exact clone64
  · injection h with h; subst h; exact clone65
  · injection h with h; subst h; exact clone66
  · injection h with h; subst h; exact clone67
  · injection h with h; subst h; exact clone73
  · injection h with h; subst h; exact clone84
  · cases h
theorem run : (runF tab 20000 8 [] [.lf] .lf 0).map (·.1) = some (.d (.sc (.bool true))) := by kernel_rfl
end Go.Proofs.Ytdefleeofgekkaa
