/- Tables: those of the law. -/
import Derived.Test.YtlfhlggkbcncoaaEngKn
import Derived.Test.YtlfhlggkbcncoaaRows
import Derived.ProofKit
namespace Go.Proofs.Ytlfhlggkbcncoaa
namespace TA
open Go Go.Eng
def t8:AFn:=⟨0,199,[.t 0],
 (.seq
 (.region [⟨(some 0),.mov (.c (.d (.sc (.bool false)))),none,0,0⟩] false)
 (.seq
 (.seq
 (.region [⟨(some 1),.mov (.c (.d (.sc (.int .i64 0)))),none,0,0⟩] false)
 (.block 0
 (.loop
 (.seq
 (.seq
 (.region [⟨(some 36),.mov (.t 1),none,0,0⟩,
 ⟨(some 37),.bin .lss (.t 36) (.c (.d (.sc (.int .i64 16)))),none,0,0⟩] false)
 (.cond (.t 37)
 .skip
 (.exit 0)))
 (.seq
 (.block 1
 (.seq
 (.region [⟨(some 40),.mov (.t 1),none,0,0⟩,
 ⟨(some 41),.call 25 [(.t 40)],none,0,0⟩,
 ⟨(some 42),.callF 24 [(.t 41),(.c (.d (.sc (.int .i64 8))))],none,0,0⟩,
 ⟨(some 43),.un .not (.t 42),none,0,0⟩] false)
 (.cond (.t 43)
 (.seq
 (.region [⟨(some 0),.mov (.c (.d (.sc (.bool false)))),none,0,0⟩] false)
 .ret)
 .skip)))
 (.region [⟨(some 38),.mov (.t 1),none,0,0⟩,
 ⟨(some 39),.bin .add (.t 38) (.c (.d (.sc (.int .i64 1)))),none,0,0⟩,
 ⟨(some 1),.mov (.t 39),none,0,0⟩] false))))))
 (.seq
 (.region [⟨(some 44),.build [(.d (.sc (.int .u8 0))),(.d (.sc (.int .i64 0))),(.d (.sc (.int .i64 0))),(.d (.sc (.int .i64 0)))] [(0,1,(.c (.d (.sc (.int .u8 1))))),(1,1,(.c (.d (.sc (.int .i64 15))))),(2,1,(.c (.d (.sc (.int .i64 (-9223372036854775808))))))],none,0,0⟩,
 ⟨(some 2),.alloc [(.d (.sc (.int .u8 0))),(.d (.sc (.int .i64 0))),(.d (.sc (.int .i64 0))),(.d (.sc (.int .i64 0)))],none,0,0⟩,
 ⟨none,.store 4 (.t 2) (.t 44),none,0,0⟩] false)
 (.seq
 (.region [⟨(some 46),.call 26 [],none,0,0⟩,
 ⟨(some 47),.callF 13 [(.t 46),(.c (.d (.sc (.int .i64 1)))),(.c (.d (.sc (.int .i64 0))))],none,0,0⟩,
 ⟨(some 45),.mov (.t 47),none,0,0⟩,
 ⟨(some 48),.extract (.t 45) 0,none,0,0⟩,
 ⟨(some 49),.extract (.t 45) 1,none,0,0⟩,
 ⟨(some 3),.mov (.t 48),none,0,0⟩,
 ⟨(some 4),.mov (.t 49),none,0,0⟩] false)
 (.seq
 (.region [⟨(some 51),.call 26 [],none,0,0⟩,
 ⟨(some 52),.callF 13 [(.t 51),(.c (.d (.sc (.int .i64 0)))),(.c (.d (.sc (.int .i64 1))))],none,0,0⟩,
 ⟨(some 50),.mov (.t 52),none,0,0⟩,
 ⟨(some 53),.extract (.t 50) 0,none,0,0⟩,
 ⟨(some 54),.extract (.t 50) 1,none,0,0⟩,
 ⟨(some 5),.mov (.t 53),none,0,0⟩,
 ⟨(some 6),.mov (.t 54),none,0,0⟩] false)
 (.seq
 (.region [⟨(some 56),.call 26 [],none,0,0⟩,
 ⟨(some 57),.callF 13 [(.t 56),(.c (.d (.sc (.int .i64 0)))),(.c (.d (.sc (.int .i64 (-1)))))],none,0,0⟩,
 ⟨(some 55),.mov (.t 57),none,0,0⟩,
 ⟨(some 58),.extract (.t 55) 0,none,0,0⟩,
 ⟨(some 59),.extract (.t 55) 1,none,0,0⟩,
 ⟨(some 7),.mov (.t 58),none,0,0⟩,
 ⟨(some 8),.mov (.t 59),none,0,0⟩] false)
 (.seq
 (.region [⟨(some 61),.call 26 [],none,0,0⟩,
 ⟨(some 62),.callF 15 [(.t 61),(.c (.d (.sc (.int .u64 255))))],none,0,0⟩,
 ⟨(some 60),.mov (.t 62),none,0,0⟩,
 ⟨(some 63),.extract (.t 60) 0,none,0,0⟩,
 ⟨(some 64),.extract (.t 60) 1,none,0,0⟩,
 ⟨(some 65),.extract (.t 60) 2,none,0,0⟩,
 ⟨(some 9),.mov (.t 63),none,0,0⟩,
 ⟨(some 10),.mov (.t 64),none,0,0⟩,
 ⟨(some 11),.mov (.t 65),none,0,0⟩] false)
 (.seq
 (.region [⟨(some 67),.call 26 [],none,0,0⟩,
 ⟨(some 68),.callF 15 [(.t 67),(.c (.d (.sc (.int .u64 257))))],none,0,0⟩,
 ⟨(some 66),.mov (.t 68),none,0,0⟩,
 ⟨(some 69),.extract (.t 66) 0,none,0,0⟩,
 ⟨(some 70),.extract (.t 66) 1,none,0,0⟩,
 ⟨(some 71),.extract (.t 66) 2,none,0,0⟩,
 ⟨(some 12),.mov (.t 69),none,0,0⟩,
 ⟨(some 13),.mov (.t 70),none,0,0⟩,
 ⟨(some 14),.mov (.t 71),none,0,0⟩] false)
 (.seq
 (.region [⟨(some 73),.call 26 [],none,0,0⟩,
 ⟨(some 74),.callF 15 [(.t 73),(.c (.d (.sc (.int .u64 512))))],none,0,0⟩,
 ⟨(some 72),.mov (.t 74),none,0,0⟩,
 ⟨(some 75),.extract (.t 72) 0,none,0,0⟩,
 ⟨(some 76),.extract (.t 72) 1,none,0,0⟩,
 ⟨(some 77),.extract (.t 72) 2,none,0,0⟩,
 ⟨(some 15),.mov (.t 75),none,0,0⟩,
 ⟨(some 16),.mov (.t 76),none,0,0⟩,
 ⟨(some 17),.mov (.t 77),none,0,0⟩] false)
 (.seq
 (.region [⟨(some 79),.call 26 [],none,0,0⟩,
 ⟨(some 80),.callF 15 [(.t 79),(.c (.d (.sc (.int .u64 18446744073709551615))))],none,0,0⟩,
 ⟨(some 78),.mov (.t 80),none,0,0⟩,
 ⟨(some 81),.extract (.t 78) 0,none,0,0⟩,
 ⟨(some 82),.extract (.t 78) 1,none,0,0⟩,
 ⟨(some 83),.extract (.t 78) 2,none,0,0⟩,
 ⟨(some 18),.mov (.t 81),none,0,0⟩,
 ⟨(some 19),.mov (.t 82),none,0,0⟩,
 ⟨(some 20),.mov (.t 83),none,0,0⟩] false)
 (.seq
 (.region [⟨(some 85),.call 22 [(.c (.own [] .full))],none,0,0⟩,
 ⟨(some 84),.mov (.t 85),none,0,0⟩,
 ⟨(some 86),.extract (.t 84) 0,none,0,0⟩,
 ⟨(some 87),.extract (.t 84) 1,none,0,0⟩,
 ⟨(some 21),.alloc [(.own [] .full),(.own [] .full),(.own [] .full)],none,0,0⟩,
 ⟨none,.store 3 (.t 21) (.t 86),none,0,0⟩,
 ⟨(some 22),.mov (.t 87),none,0,0⟩] false)
 (.seq
 (.region [⟨(some 89),.makeSlice 1 1 [(.sc (.int .u8 0))] (.c (.d (.sc (.int .i64 20001)))) (.c (.d (.sc (.int .i64 20001)))),none,0,0⟩,
 ⟨(some 90),.call 22 [(.t 89)],none,0,0⟩,
 ⟨(some 88),.mov (.t 90),none,0,0⟩,
 ⟨(some 91),.extract (.t 88) 0,none,0,0⟩,
 ⟨(some 92),.extract (.t 88) 1,none,0,0⟩,
 ⟨(some 23),.alloc [(.own [] .full),(.own [] .full),(.own [] .full)],none,0,0⟩,
 ⟨none,.store 3 (.t 23) (.t 91),none,0,0⟩,
 ⟨(some 24),.mov (.t 92),none,0,0⟩] false)
 (.seq
 (.region [⟨(some 94),.makeSlice 1 1 [(.sc (.int .u8 0))] (.c (.d (.sc (.int .i64 20000)))) (.c (.d (.sc (.int .i64 20000)))),none,0,0⟩,
 ⟨(some 95),.call 22 [(.t 94)],none,0,7⟩,
 ⟨(some 93),.mov (.t 95),none,0,0⟩,
 ⟨(some 96),.extract (.t 93) 0,none,0,0⟩,
 ⟨(some 97),.extract (.t 93) 1,none,0,0⟩,
 ⟨(some 25),.alloc [(.own [] .full),(.own [] .full),(.own [] .full)],none,0,0⟩,
 ⟨none,.store 3 (.t 25) (.t 96),none,0,0⟩,
 ⟨(some 26),.mov (.t 97),none,0,0⟩] false)
 (.seq
 (.region [⟨(some 99),.buildSlice 1 18 [(.sc (.int .u8 0))] [(0,(.c (.d (.sc (.int .u8 0))))),(1,(.c (.d (.sc (.int .u8 0))))),(2,(.c (.d (.sc (.int .u8 1))))),(3,(.c (.d (.sc (.int .u8 1))))),(4,(.c (.d (.sc (.int .u8 109))))),(5,(.c (.d (.sc (.int .u8 0))))),(6,(.c (.d (.sc (.int .u8 1))))),(7,(.c (.d (.sc (.int .u8 0))))),(8,(.c (.d (.sc (.int .u8 1))))),(9,(.c (.d (.sc (.int .u8 34))))),(10,(.c (.d (.sc (.int .u8 1))))),(11,(.c (.d (.sc (.int .u8 1))))),(12,(.c (.d (.sc (.int .u8 0))))),(13,(.c (.d (.sc (.int .u8 0))))),(14,(.c (.d (.sc (.int .u8 1))))),(15,(.c (.d (.sc (.int .u8 0))))),(16,(.c (.d (.sc (.int .u8 0))))),(17,(.c (.d (.sc (.int .u8 0)))))],none,0,0⟩,
 ⟨(some 100),.call 22 [(.t 99)],none,0,0⟩,
 ⟨(some 98),.mov (.t 100),none,0,0⟩,
 ⟨(some 101),.extract (.t 98) 0,none,0,0⟩,
 ⟨(some 102),.extract (.t 98) 1,none,0,0⟩,
 ⟨(some 27),.alloc [(.own [] .full),(.own [] .full),(.own [] .full)],none,0,0⟩,
 ⟨none,.store 3 (.t 27) (.t 101),none,0,0⟩,
 ⟨(some 28),.mov (.t 102),none,0,0⟩] false)
 (.seq
 (.region [⟨(some 104),.buildSlice 1 16 [(.sc (.int .u8 0))] [(0,(.c (.d (.sc (.int .u8 0))))),(1,(.c (.d (.sc (.int .u8 0))))),(2,(.c (.d (.sc (.int .u8 1))))),(3,(.c (.d (.sc (.int .u8 1))))),(4,(.c (.d (.sc (.int .u8 109))))),(5,(.c (.d (.sc (.int .u8 0))))),(6,(.c (.d (.sc (.int .u8 1))))),(7,(.c (.d (.sc (.int .u8 0))))),(8,(.c (.d (.sc (.int .u8 1))))),(9,(.c (.d (.sc (.int .u8 34))))),(10,(.c (.d (.sc (.int .u8 1))))),(11,(.c (.d (.sc (.int .u8 1))))),(12,(.c (.d (.sc (.int .u8 0))))),(13,(.c (.d (.sc (.int .u8 0))))),(14,(.c (.d (.sc (.int .u8 1))))),(15,(.c (.d (.sc (.int .u8 0)))))],none,0,0⟩,
 ⟨(some 105),.call 22 [(.t 104)],none,0,0⟩,
 ⟨(some 103),.mov (.t 105),none,0,0⟩,
 ⟨(some 106),.extract (.t 103) 0,none,0,0⟩,
 ⟨(some 107),.extract (.t 103) 1,none,0,0⟩,
 ⟨(some 29),.alloc [(.own [] .full),(.own [] .full),(.own [] .full)],none,0,0⟩,
 ⟨none,.store 3 (.t 29) (.t 106),none,0,0⟩,
 ⟨(some 30),.mov (.t 107),none,0,0⟩] false)
 (.seq
 (.region [⟨(some 109),.buildSlice 1 17 [(.sc (.int .u8 0))] [(0,(.c (.d (.sc (.int .u8 0))))),(1,(.c (.d (.sc (.int .u8 0))))),(2,(.c (.d (.sc (.int .u8 1))))),(3,(.c (.d (.sc (.int .u8 1))))),(4,(.c (.d (.sc (.int .u8 109))))),(5,(.c (.d (.sc (.int .u8 0))))),(6,(.c (.d (.sc (.int .u8 1))))),(7,(.c (.d (.sc (.int .u8 0))))),(8,(.c (.d (.sc (.int .u8 1))))),(9,(.c (.d (.sc (.int .u8 34))))),(10,(.c (.d (.sc (.int .u8 1))))),(11,(.c (.d (.sc (.int .u8 1))))),(12,(.c (.d (.sc (.int .u8 0))))),(13,(.c (.d (.sc (.int .u8 0))))),(14,(.c (.d (.sc (.int .u8 1))))),(15,(.c (.d (.sc (.int .u8 0))))),(16,(.c (.d (.sc (.int .u8 0)))))],none,0,0⟩,
 ⟨(some 110),.call 22 [(.t 109)],none,0,0⟩,
 ⟨(some 108),.mov (.t 110),none,0,0⟩,
 ⟨(some 111),.extract (.t 108) 0,none,0,0⟩,
 ⟨(some 112),.extract (.t 108) 1,none,0,0⟩,
 ⟨(some 31),.alloc [(.own [] .full),(.own [] .full),(.own [] .full)],none,0,0⟩,
 ⟨none,.store 3 (.t 31) (.t 111),none,0,0⟩,
 ⟨(some 32),.mov (.t 112),none,0,0⟩] false)
 (.seq
 (.region [⟨(some 114),.buildSlice 1 17 [(.sc (.int .u8 0))] [(0,(.c (.d (.sc (.int .u8 0))))),(1,(.c (.d (.sc (.int .u8 0))))),(2,(.c (.d (.sc (.int .u8 1))))),(3,(.c (.d (.sc (.int .u8 1))))),(4,(.c (.d (.sc (.int .u8 109))))),(5,(.c (.d (.sc (.int .u8 0))))),(6,(.c (.d (.sc (.int .u8 3))))),(7,(.c (.d (.sc (.int .u8 0))))),(8,(.c (.d (.sc (.int .u8 1))))),(9,(.c (.d (.sc (.int .u8 34))))),(10,(.c (.d (.sc (.int .u8 1))))),(11,(.c (.d (.sc (.int .u8 1))))),(12,(.c (.d (.sc (.int .u8 0))))),(13,(.c (.d (.sc (.int .u8 0))))),(14,(.c (.d (.sc (.int .u8 1))))),(15,(.c (.d (.sc (.int .u8 0))))),(16,(.c (.d (.sc (.int .u8 0)))))],none,0,0⟩,
 ⟨(some 115),.call 22 [(.t 114)],none,0,0⟩,
 ⟨(some 113),.mov (.t 115),none,0,0⟩,
 ⟨(some 116),.extract (.t 113) 0,none,0,0⟩,
 ⟨(some 117),.extract (.t 113) 1,none,0,0⟩,
 ⟨(some 33),.alloc [(.own [] .full),(.own [] .full),(.own [] .full)],none,0,0⟩,
 ⟨none,.store 3 (.t 33) (.t 116),none,0,0⟩,
 ⟨(some 34),.mov (.t 117),none,0,0⟩] false)
 (.seq
 (.region [⟨(some 118),.mov (.t 4),none,0,0⟩,
 ⟨(some 119),.bin .eql (.t 118) (.c (.d (.sc (.int .i64 2)))),none,0,0⟩,
 ⟨(some 120),.mov (.t 119),none,0,0⟩,
 ⟨(some 121),.mov (.t 6),(some (120,true)),0,0⟩,
 ⟨(some 122),.bin .eql (.t 121) (.c (.d (.sc (.int .i64 2)))),(some (120,true)),0,0⟩,
 ⟨(some 123),.pick (.t 120) (.t 122) (.c (.d (.sc (.bool false)))),none,0,0⟩,
 ⟨(some 124),.mov (.t 123),none,0,0⟩,
 ⟨(some 125),.mov (.t 8),(some (124,true)),0,0⟩,
 ⟨(some 126),.bin .eql (.t 125) (.c (.d (.sc (.int .i64 2)))),(some (124,true)),0,0⟩,
 ⟨(some 127),.pick (.t 124) (.t 126) (.c (.d (.sc (.bool false)))),none,0,0⟩,
 ⟨(some 128),.mov (.t 127),none,0,0⟩,
 ⟨(some 129),.mov (.t 11),(some (128,true)),0,0⟩,
 ⟨(some 130),.bin .eql (.t 129) (.c (.d (.sc (.int .i64 6)))),(some (128,true)),0,0⟩,
 ⟨(some 131),.pick (.t 128) (.t 130) (.c (.d (.sc (.bool false)))),none,0,0⟩,
 ⟨(some 132),.mov (.t 131),none,0,0⟩,
 ⟨(some 133),.mov (.t 14),(some (132,true)),0,0⟩,
 ⟨(some 134),.bin .eql (.t 133) (.c (.d (.sc (.int .i64 6)))),(some (132,true)),0,0⟩,
 ⟨(some 135),.pick (.t 132) (.t 134) (.c (.d (.sc (.bool false)))),none,0,0⟩,
 ⟨(some 136),.mov (.t 135),none,0,0⟩,
 ⟨(some 137),.mov (.t 17),(some (136,true)),0,0⟩,
 ⟨(some 138),.bin .eql (.t 137) (.c (.d (.sc (.int .i64 6)))),(some (136,true)),0,0⟩,
 ⟨(some 139),.pick (.t 136) (.t 138) (.c (.d (.sc (.bool false)))),none,0,0⟩,
 ⟨(some 140),.mov (.t 139),none,0,0⟩,
 ⟨(some 141),.mov (.t 20),(some (140,true)),0,0⟩,
 ⟨(some 142),.bin .eql (.t 141) (.c (.d (.sc (.int .i64 6)))),(some (140,true)),0,0⟩,
 ⟨(some 143),.pick (.t 140) (.t 142) (.c (.d (.sc (.bool false)))),none,0,0⟩,
 ⟨(some 144),.mov (.t 143),none,0,0⟩,
 ⟨(some 145),.mov (.t 22),(some (144,true)),0,0⟩,
 ⟨(some 146),.bin .eql (.t 145) (.c (.d (.sc (.int .i64 12)))),(some (144,true)),0,0⟩,
 ⟨(some 147),.pick (.t 144) (.t 146) (.c (.d (.sc (.bool false)))),none,0,0⟩,
 ⟨(some 148),.mov (.t 147),none,0,0⟩,
 ⟨(some 149),.mov (.t 24),(some (148,true)),0,0⟩,
 ⟨(some 150),.bin .eql (.t 149) (.c (.d (.sc (.int .i64 4)))),(some (148,true)),0,0⟩,
 ⟨(some 151),.pick (.t 148) (.t 150) (.c (.d (.sc (.bool false)))),none,0,0⟩,
 ⟨(some 152),.mov (.t 151),none,0,0⟩,
 ⟨(some 153),.mov (.t 26),(some (152,true)),0,0⟩,
 ⟨(some 154),.bin .eql (.t 153) (.c (.d (.sc (.int .i64 12)))),(some (152,true)),0,0⟩,
 ⟨(some 155),.pick (.t 152) (.t 154) (.c (.d (.sc (.bool false)))),none,0,0⟩,
 ⟨(some 156),.mov (.t 155),none,0,0⟩,
 ⟨(some 157),.mov (.t 28),(some (156,true)),0,0⟩,
 ⟨(some 158),.bin .eql (.t 157) (.c (.d (.sc (.int .i64 12)))),(some (156,true)),0,0⟩,
 ⟨(some 159),.pick (.t 156) (.t 158) (.c (.d (.sc (.bool false)))),none,0,0⟩,
 ⟨(some 160),.mov (.t 159),none,0,0⟩,
 ⟨(some 161),.mov (.t 30),(some (160,true)),0,0⟩,
 ⟨(some 162),.bin .eql (.t 161) (.c (.d (.sc (.int .i64 12)))),(some (160,true)),0,0⟩,
 ⟨(some 163),.pick (.t 160) (.t 162) (.c (.d (.sc (.bool false)))),none,0,0⟩,
 ⟨(some 164),.mov (.t 163),none,0,0⟩,
 ⟨(some 165),.mov (.t 34),(some (164,true)),0,0⟩,
 ⟨(some 166),.bin .eql (.t 165) (.c (.d (.sc (.int .i64 12)))),(some (164,true)),0,0⟩,
 ⟨(some 167),.pick (.t 164) (.t 166) (.c (.d (.sc (.bool false)))),none,0,0⟩,
 ⟨(some 35),.mov (.t 167),none,0,0⟩] false)
 (.seq
 (.region [⟨(some 168),.mov (.c (.d (.sc (.bool true)))),none,0,0⟩,
 ⟨(some 169),.mov (.t 35),(some (168,true)),1,0⟩,
 ⟨(some 170),.pick (.t 168) (.t 169) (.c (.d (.sc (.bool false)))),none,3,0⟩,
 ⟨(some 171),.mov (.t 170),none,7,0⟩,
 ⟨(some 172),.mov (.t 32),(some (171,true)),15,0⟩,
 ⟨(some 173),.bin .eql (.t 172) (.c (.d (.sc (.int .i64 0)))),(some (171,true)),31,0⟩,
 ⟨(some 174),.pick (.t 171) (.t 173) (.c (.d (.sc (.bool false)))),none,63,0⟩,
 ⟨(some 175),.mov (.t 174),none,127,0⟩,
 ⟨(some 176),.load 3 true (.t 31),(some (175,true)),255,0⟩,
 ⟨(some 177),.call 26 [],(some (175,true)),255,0⟩,
 ⟨(some 178),.callF 19 [(.t 176),(.t 177)],(some (175,true)),1023,0⟩,
 ⟨(some 179),.pick (.t 175) (.t 178) (.c (.d (.sc (.bool false)))),none,2047,0⟩,
 ⟨(some 180),.mov (.t 179),none,4095,0⟩,
 ⟨(some 181),.load 4 true (.t 2),(some (180,true)),8191,0⟩,
 ⟨(some 182),.call 27 [(.c (.d (.sc (.int .i64 8)))),(.t 181)],(some (180,true)),16383,0⟩,
 ⟨(some 183),.callF 17 [(.t 182)],(some (180,true)),32767,0⟩,
 ⟨(some 184),.bin .eql (.t 183) (.c (.d (.sc (.int .i64 0)))),(some (180,true)),65535,0⟩,
 ⟨(some 185),.pick (.t 180) (.t 184) (.c (.d (.sc (.bool false)))),none,131071,0⟩,
 ⟨(some 186),.mov (.t 185),none,262143,0⟩,
 ⟨(some 187),.load 4 true (.t 2),(some (186,true)),524287,0⟩,
 ⟨(some 188),.call 27 [(.c (.d (.sc (.int .i64 9)))),(.t 187)],(some (186,true)),1048575,0⟩,
 ⟨(some 189),.callF 24 [(.t 188),(.c (.d (.sc (.int .i64 4))))],(some (186,true)),2097151,0⟩,
 ⟨(some 190),.pick (.t 186) (.t 189) (.c (.d (.sc (.bool false)))),none,4194303,0⟩,
 ⟨(some 191),.mov (.t 190),none,8388607,0⟩,
 ⟨(some 192),.call 25 [(.c (.d (.sc (.int .i64 99))))],(some (191,true)),16777215,0⟩,
 ⟨(some 193),.callF 17 [(.t 192)],(some (191,true)),33554431,0⟩,
 ⟨(some 194),.bin .eql (.t 193) (.c (.d (.sc (.int .i64 0)))),(some (191,true)),67108863,0⟩,
 ⟨(some 195),.pick (.t 191) (.t 194) (.c (.d (.sc (.bool false)))),none,134217727,0⟩,
 ⟨(some 196),.mov (.t 195),none,268435455,0⟩,
 ⟨(some 197),.callF 20 [],(some (196,true)),536870911,0⟩,
 ⟨(some 198),.pick (.t 196) (.t 197) (.c (.d (.sc (.bool false)))),none,1073741823,0⟩,
 ⟨(some 0),.mov (.t 198),none,2147483647,0⟩] true)
 .ret))))))))))))))))))),false⟩
def t11:AFn:=⟨1,53,[.t 2,.t 3],
 (.seq
 (.region [⟨(some 1),.box (.t 0),none,0,0⟩,
 ⟨(some 2),.mov (.c (.own [] .full)),none,0,0⟩,
 ⟨(some 3),.mov (.c (.d (.sc (.int .i64 0)))),none,0,0⟩] false)
 (.seq
 (.seq
 (.region [⟨(some 10),.load 3 true (.t 1),none,0,0⟩,
 ⟨(some 11),.callF 30 [(.t 10)],none,0,0⟩,
 ⟨(some 12),.un .not (.t 11),none,0,0⟩] false)
 (.cond (.t 12)
 (.seq
 (.region [⟨(some 2),.mov (.c (.own [] .full)),none,0,0⟩,
 ⟨(some 3),.mov (.c (.d (.sc (.int .i64 8)))),none,0,0⟩] false)
 .ret)
 .skip))
 (.seq
 (.region [⟨(some 4),.alloc [(.own [] .full)],none,0,0⟩] false)
 (.seq
 (.region [⟨(some 13),.fieldAddr 0 (.t 1),none,0,0⟩,
 ⟨(some 14),.load 1 false (.t 13),none,0,0⟩,
 ⟨(some 15),.call 31 [(.t 4),(.t 14)],none,0,0⟩] false)
 (.seq
 (.region [⟨(some 16),.fieldAddr 1 (.t 1),none,0,0⟩,
 ⟨(some 17),.load 1 false (.t 16),none,0,0⟩,
 ⟨(some 18),.len (.t 17),none,0,0⟩,
 ⟨(some 19),.call 32 [(.t 4),(.t 18)],none,0,0⟩] false)
 (.seq
 (.seq
 (.region [⟨(some 20),.fieldAddr 1 (.t 1),none,0,0⟩,
 ⟨(some 21),.load 1 false (.t 20),none,0,0⟩,
 ⟨(some 22),.len (.t 21),none,0,0⟩,
 ⟨(some 23),.mov (.c (.d (.sc (.int .i64 0)))),none,0,0⟩] false)
 (.block 0
 (.loop
 (.seq
 (.region [⟨(some 24),.bin .lss (.t 23) (.t 22),none,0,0⟩] false)
 (.seq
 (.cond (.t 24)
 .skip
 (.exit 0))
 (.seq
 (.block 1
 (.seq
 (.region [⟨(some 25),.indexAddr 1 (.t 21) (.t 23),none,0,0⟩,
 ⟨(some 26),.load 1 false (.t 25),none,0,0⟩,
 ⟨(some 6),.mov (.t 26),none,0,0⟩] false)
 (.region [⟨(some 27),.mov (.t 6),none,0,0⟩,
 ⟨(some 28),.call 33 [(.t 4),(.t 27)],none,0,0⟩] false)))
 (.region [⟨(some 29),.bin .add (.t 23) (.c (.d (.sc (.int .i64 1)))),none,0,0⟩,
 ⟨(some 23),.mov (.t 29),none,0,0⟩] false)))))))
 (.seq
 (.region [⟨(some 30),.fieldAddr 2 (.t 1),none,0,0⟩,
 ⟨(some 31),.load 1 false (.t 30),none,0,0⟩,
 ⟨(some 32),.len (.t 31),none,0,0⟩,
 ⟨(some 33),.call 32 [(.t 4),(.t 32)],none,0,0⟩] false)
 (.seq
 (.seq
 (.region [⟨(some 34),.fieldAddr 2 (.t 1),none,0,0⟩,
 ⟨(some 35),.load 1 false (.t 34),none,0,0⟩,
 ⟨(some 36),.len (.t 35),none,0,0⟩,
 ⟨(some 37),.mov (.c (.d (.sc (.int .i64 0)))),none,0,0⟩] false)
 (.block 2
 (.loop
 (.seq
 (.region [⟨(some 38),.bin .lss (.t 37) (.t 36),none,0,0⟩] false)
 (.seq
 (.cond (.t 38)
 .skip
 (.exit 2))
 (.seq
 (.block 3
 (.seq
 (.region [⟨(some 39),.indexAddr 7 (.t 35) (.t 37),none,0,0⟩,
 ⟨(some 40),.load 7 true (.t 39),none,0,0⟩,
 ⟨(some 8),.alloc [(.d (.sc (.string ⟨#[]⟩))),(.d (.sc (.int .i64 0))),(.d (.sc (.int .i64 0))),(.own [] .full),(.own [] .full),(.own [] .full),(.own [] .full)],none,0,0⟩,
 ⟨none,.store 7 (.t 8) (.t 40),none,0,0⟩] false)
 (.seq
 (.region [⟨(some 41),.load 7 true (.t 8),none,0,0⟩,
 ⟨(some 42),.call 34 [(.t 4),(.t 41)],none,0,0⟩,
 ⟨(some 9),.mov (.t 42),none,0,0⟩] false)
 (.seq
 (.region [⟨(some 43),.mov (.t 9),none,0,0⟩,
 ⟨(some 44),.bin .neq (.t 43) (.c (.d (.sc (.int .i64 0)))),none,0,0⟩] false)
 (.cond (.t 44)
 (.seq
 (.region [⟨(some 45),.mov (.t 9),none,0,0⟩,
 ⟨(some 2),.mov (.c (.own [] .full)),none,0,0⟩,
 ⟨(some 3),.mov (.t 45),none,0,0⟩] false)
 .ret)
 .skip)))))
 (.region [⟨(some 46),.bin .add (.t 37) (.c (.d (.sc (.int .i64 1)))),none,0,0⟩,
 ⟨(some 37),.mov (.t 46),none,0,0⟩] false)))))))
 (.seq
 (.seq
 (.region [⟨(some 47),.fieldAddr 0 (.t 4),none,0,0⟩,
 ⟨(some 48),.load 1 false (.t 47),none,0,0⟩,
 ⟨(some 49),.len (.t 48),none,0,0⟩,
 ⟨(some 50),.bin .gtr (.t 49) (.c (.d (.sc (.int .i64 20000)))),none,0,0⟩] false)
 (.cond (.t 50)
 (.seq
 (.region [⟨(some 2),.mov (.c (.own [] .full)),none,0,0⟩,
 ⟨(some 3),.mov (.c (.d (.sc (.int .i64 4)))),none,0,0⟩] false)
 .ret)
 .skip))
 (.seq
 (.region [⟨(some 51),.fieldAddr 0 (.t 4),none,0,0⟩,
 ⟨(some 52),.load 1 false (.t 51),none,0,0⟩,
 ⟨(some 2),.mov (.t 52),none,0,0⟩,
 ⟨(some 3),.mov (.c (.d (.sc (.int .i64 0)))),none,0,0⟩] false)
 .ret)))))))))),false⟩
def t13:AFn:=⟨3,45,[.t 6,.t 7],
 (.seq
 (.region [⟨(some 3),.box (.t 0),none,0,0⟩,
 ⟨(some 6),.mov (.c (.d (.sc (.int .u64 0)))),none,0,0⟩,
 ⟨(some 7),.mov (.c (.d (.sc (.int .i64 0)))),none,0,0⟩] false)
 (.seq
 (.seq
 (.region [⟨(some 9),.load 3 true (.t 3),none,0,0⟩,
 ⟨(some 10),.callF 17 [(.t 9)],none,0,0⟩,
 ⟨(some 8),.mov (.t 10),none,0,0⟩] false)
 (.seq
 (.region [⟨(some 11),.mov (.t 8),none,0,0⟩,
 ⟨(some 12),.bin .neq (.t 11) (.c (.d (.sc (.int .i64 0)))),none,0,0⟩] false)
 (.cond (.t 12)
 (.seq
 (.region [⟨(some 13),.mov (.t 8),none,0,0⟩,
 ⟨(some 6),.mov (.c (.d (.sc (.int .u64 0)))),none,0,0⟩,
 ⟨(some 7),.mov (.t 13),none,0,0⟩] false)
 .ret)
 .skip)))
 (.seq
 (.seq
 (.region [⟨(some 14),.mov (.t 1),none,0,0⟩,
 ⟨(some 15),.bin .lss (.t 14) (.c (.d (.sc (.int .i64 0)))),none,0,0⟩,
 ⟨(some 16),.mov (.t 15),none,0,0⟩,
 ⟨(some 17),.mov (.t 1),(some (16,false)),0,0⟩,
 ⟨(some 18),.fieldAddr 2 (.t 3),(some (16,false)),0,0⟩,
 ⟨(some 19),.load 1 false (.t 18),(some (16,false)),0,0⟩,
 ⟨(some 20),.len (.t 19),(some (16,false)),0,0⟩,
 ⟨(some 21),.bin .geq (.t 17) (.t 20),(some (16,false)),0,0⟩,
 ⟨(some 22),.pick (.t 16) (.c (.d (.sc (.bool true)))) (.t 21),none,0,0⟩,
 ⟨(some 23),.mov (.t 22),none,0,0⟩,
 ⟨(some 24),.mov (.t 2),(some (23,false)),0,0⟩,
 ⟨(some 25),.bin .lss (.t 24) (.c (.d (.sc (.int .i64 0)))),(some (23,false)),0,0⟩,
 ⟨(some 26),.pick (.t 23) (.c (.d (.sc (.bool true)))) (.t 25),none,0,0⟩,
 ⟨(some 27),.mov (.t 26),none,0,0⟩,
 ⟨(some 28),.mov (.t 2),(some (27,false)),0,0⟩,
 ⟨(some 29),.fieldAddr 2 (.t 3),(some (27,false)),0,0⟩,
 ⟨(some 30),.load 1 false (.t 29),(some (27,false)),0,0⟩,
 ⟨(some 31),.mov (.t 1),(some (27,false)),0,0⟩,
 ⟨(some 32),.indexAddr 7 (.t 30) (.t 31),(some (27,false)),0,0⟩,
 ⟨(some 33),.fieldAddr 4 (.t 32),(some (27,false)),0,0⟩,
 ⟨(some 34),.load 1 false (.t 33),(some (27,false)),0,0⟩,
 ⟨(some 35),.len (.t 34),(some (27,false)),0,0⟩,
 ⟨(some 36),.bin .geq (.t 28) (.t 35),(some (27,false)),0,0⟩,
 ⟨(some 37),.pick (.t 27) (.c (.d (.sc (.bool true)))) (.t 36),none,0,0⟩] false)
 (.cond (.t 37)
 (.seq
 (.region [⟨(some 6),.mov (.c (.d (.sc (.int .u64 0)))),none,0,0⟩,
 ⟨(some 7),.mov (.c (.d (.sc (.int .i64 2)))),none,0,0⟩] false)
 .ret)
 .skip))
 (.seq
 (.region [⟨(some 38),.mov (.t 1),none,0,0⟩,
 ⟨(some 39),.bin .add (.t 38) (.c (.d (.sc (.int .i64 1)))),none,0,0⟩,
 ⟨(some 40),.conv .u64 (.t 39),none,0,0⟩,
 ⟨(some 41),.bin .shl (.t 40) (.c (.d (.sc (.int .u64 8)))),none,0,0⟩,
 ⟨(some 42),.mov (.t 2),none,0,0⟩,
 ⟨(some 43),.conv .u64 (.t 42),none,0,0⟩,
 ⟨(some 44),.bin .or (.t 41) (.t 43),none,0,0⟩,
 ⟨(some 6),.mov (.t 44),none,0,0⟩,
 ⟨(some 7),.mov (.c (.d (.sc (.int .i64 0)))),none,0,0⟩] false)
 .ret)))),false⟩
def t15:AFn:=⟨2,45,[.t 4,.t 5,.t 6],
 (.seq
 (.region [⟨(some 2),.box (.t 0),none,0,0⟩,
 ⟨(some 4),.mov (.c (.d (.sc (.int .i64 0)))),none,0,0⟩,
 ⟨(some 5),.mov (.c (.d (.sc (.int .i64 0)))),none,0,0⟩,
 ⟨(some 6),.mov (.c (.d (.sc (.int .i64 0)))),none,0,0⟩] false)
 (.seq
 (.seq
 (.region [⟨(some 9),.load 3 true (.t 2),none,0,0⟩,
 ⟨(some 10),.callF 17 [(.t 9)],none,0,0⟩,
 ⟨(some 7),.mov (.t 10),none,0,0⟩] false)
 (.seq
 (.region [⟨(some 11),.mov (.t 7),none,0,0⟩,
 ⟨(some 12),.bin .neq (.t 11) (.c (.d (.sc (.int .i64 0)))),none,0,0⟩] false)
 (.cond (.t 12)
 (.seq
 (.region [⟨(some 13),.mov (.t 7),none,0,0⟩,
 ⟨(some 4),.mov (.c (.d (.sc (.int .i64 0)))),none,0,0⟩,
 ⟨(some 5),.mov (.c (.d (.sc (.int .i64 0)))),none,0,0⟩,
 ⟨(some 6),.mov (.t 13),none,0,0⟩] false)
 .ret)
 .skip)))
 (.seq
 (.region [⟨(some 14),.mov (.t 1),none,0,0⟩,
 ⟨(some 15),.bin .shr (.t 14) (.c (.d (.sc (.int .u64 8)))),none,0,0⟩,
 ⟨(some 16),.mov (.t 1),none,0,0⟩,
 ⟨(some 17),.bin .and (.t 16) (.c (.d (.sc (.int .u64 255)))),none,0,0⟩,
 ⟨(some 18),.conv .i64 (.t 17),none,0,0⟩,
 ⟨(some 8),.mov (.t 15),none,0,0⟩,
 ⟨(some 5),.mov (.t 18),none,0,0⟩] false)
 (.seq
 (.seq
 (.region [⟨(some 19),.mov (.t 8),none,0,0⟩,
 ⟨(some 20),.bin .eql (.t 19) (.c (.d (.sc (.int .u64 0)))),none,0,0⟩,
 ⟨(some 21),.mov (.t 20),none,0,0⟩,
 ⟨(some 22),.mov (.t 8),(some (21,false)),0,0⟩,
 ⟨(some 23),.fieldAddr 2 (.t 2),(some (21,false)),0,0⟩,
 ⟨(some 24),.load 1 false (.t 23),(some (21,false)),0,0⟩,
 ⟨(some 25),.len (.t 24),(some (21,false)),0,0⟩,
 ⟨(some 26),.conv .u64 (.t 25),(some (21,false)),0,0⟩,
 ⟨(some 27),.bin .gtr (.t 22) (.t 26),(some (21,false)),0,0⟩,
 ⟨(some 28),.pick (.t 21) (.c (.d (.sc (.bool true)))) (.t 27),none,0,0⟩,
 ⟨(some 29),.mov (.t 28),none,0,0⟩,
 ⟨(some 30),.mov (.t 5),(some (29,false)),0,0⟩,
 ⟨(some 31),.fieldAddr 2 (.t 2),(some (29,false)),0,0⟩,
 ⟨(some 32),.load 1 false (.t 31),(some (29,false)),0,0⟩,
 ⟨(some 33),.mov (.t 8),(some (29,false)),0,0⟩,
 ⟨(some 34),.bin .sub (.t 33) (.c (.d (.sc (.int .u64 1)))),(some (29,false)),0,0⟩,
 ⟨(some 35),.indexAddr 7 (.t 32) (.t 34),(some (29,false)),0,0⟩,
 ⟨(some 36),.fieldAddr 4 (.t 35),(some (29,false)),0,0⟩,
 ⟨(some 37),.load 1 false (.t 36),(some (29,false)),0,0⟩,
 ⟨(some 38),.len (.t 37),(some (29,false)),0,0⟩,
 ⟨(some 39),.bin .geq (.t 30) (.t 38),(some (29,false)),0,0⟩,
 ⟨(some 40),.pick (.t 29) (.c (.d (.sc (.bool true)))) (.t 39),none,0,0⟩] false)
 (.cond (.t 40)
 (.seq
 (.region [⟨(some 4),.mov (.c (.d (.sc (.int .i64 0)))),none,0,0⟩,
 ⟨(some 5),.mov (.c (.d (.sc (.int .i64 0)))),none,0,0⟩,
 ⟨(some 6),.mov (.c (.d (.sc (.int .i64 6)))),none,0,0⟩] false)
 .ret)
 .skip))
 (.seq
 (.region [⟨(some 41),.mov (.t 8),none,0,0⟩,
 ⟨(some 42),.conv .i64 (.t 41),none,0,0⟩,
 ⟨(some 43),.bin .sub (.t 42) (.c (.d (.sc (.int .i64 1)))),none,0,0⟩,
 ⟨(some 44),.mov (.t 5),none,0,0⟩,
 ⟨(some 4),.mov (.t 43),none,0,0⟩,
 ⟨(some 5),.mov (.t 44),none,0,0⟩,
 ⟨(some 6),.mov (.c (.d (.sc (.int .i64 0)))),none,0,0⟩] false)
 .ret))))),false⟩
def t17:AFn:=⟨1,11,[.t 2],
 (.seq
 (.region [⟨(some 1),.box (.t 0),none,0,0⟩,
 ⟨(some 2),.mov (.c (.d (.sc (.int .i64 0)))),none,0,0⟩] false)
 (.seq
 (.region [⟨(some 6),.load 3 true (.t 1),none,0,0⟩,
 ⟨(some 7),.call 11 [(.t 6)],none,0,0⟩,
 ⟨(some 5),.mov (.t 7),none,0,0⟩,
 ⟨(some 8),.extract (.t 5) 0,none,0,0⟩,
 ⟨(some 9),.extract (.t 5) 1,none,0,0⟩,
 ⟨(some 3),.mov (.t 8),none,0,0⟩,
 ⟨(some 4),.mov (.t 9),none,0,0⟩] false)
 (.seq
 (.region [⟨(some 10),.mov (.t 4),none,0,0⟩,
 ⟨(some 2),.mov (.t 10),none,0,0⟩] false)
 .ret))),false⟩
def t19:AFn:=⟨2,68,[.t 4],
 (.seq
 (.region [⟨(some 2),.box (.t 0),none,0,0⟩,
 ⟨(some 3),.box (.t 1),none,0,0⟩,
 ⟨(some 4),.mov (.c (.d (.sc (.bool false)))),none,0,0⟩] false)
 (.seq
 (.seq
 (.region [⟨(some 7),.fieldAddr 0 (.t 2),none,0,0⟩,
 ⟨(some 8),.load 1 false (.t 7),none,0,0⟩,
 ⟨(some 9),.fieldAddr 0 (.t 3),none,0,0⟩,
 ⟨(some 10),.load 1 false (.t 9),none,0,0⟩,
 ⟨(some 11),.callF 38 [(.t 8),(.t 10)],none,0,0⟩,
 ⟨(some 12),.un .not (.t 11),none,0,0⟩,
 ⟨(some 13),.mov (.t 12),none,0,0⟩,
 ⟨(some 14),.fieldAddr 1 (.t 2),(some (13,false)),0,0⟩,
 ⟨(some 15),.load 1 false (.t 14),(some (13,false)),0,0⟩,
 ⟨(some 16),.len (.t 15),(some (13,false)),0,0⟩,
 ⟨(some 17),.fieldAddr 1 (.t 3),(some (13,false)),0,0⟩,
 ⟨(some 18),.load 1 false (.t 17),(some (13,false)),0,0⟩,
 ⟨(some 19),.len (.t 18),(some (13,false)),0,0⟩,
 ⟨(some 20),.bin .neq (.t 16) (.t 19),(some (13,false)),0,0⟩,
 ⟨(some 21),.pick (.t 13) (.c (.d (.sc (.bool true)))) (.t 20),none,0,0⟩,
 ⟨(some 22),.mov (.t 21),none,0,0⟩,
 ⟨(some 23),.fieldAddr 2 (.t 2),(some (22,false)),0,0⟩,
 ⟨(some 24),.load 1 false (.t 23),(some (22,false)),0,0⟩,
 ⟨(some 25),.len (.t 24),(some (22,false)),0,0⟩,
 ⟨(some 26),.fieldAddr 2 (.t 3),(some (22,false)),0,0⟩,
 ⟨(some 27),.load 1 false (.t 26),(some (22,false)),0,0⟩,
 ⟨(some 28),.len (.t 27),(some (22,false)),0,0⟩,
 ⟨(some 29),.bin .neq (.t 25) (.t 28),(some (22,false)),0,0⟩,
 ⟨(some 30),.pick (.t 22) (.c (.d (.sc (.bool true)))) (.t 29),none,0,0⟩] false)
 (.cond (.t 30)
 (.seq
 (.region [⟨(some 4),.mov (.c (.d (.sc (.bool false)))),none,0,0⟩] false)
 .ret)
 .skip))
 (.seq
 (.seq
 (.region [⟨(some 5),.mov (.c (.d (.sc (.int .i64 0)))),none,0,0⟩] false)
 (.block 0
 (.loop
 (.seq
 (.seq
 (.region [⟨(some 31),.mov (.t 5),none,0,0⟩,
 ⟨(some 32),.fieldAddr 1 (.t 2),none,0,0⟩,
 ⟨(some 33),.load 1 false (.t 32),none,0,0⟩,
 ⟨(some 34),.len (.t 33),none,0,0⟩,
 ⟨(some 35),.bin .lss (.t 31) (.t 34),none,0,0⟩] false)
 (.cond (.t 35)
 .skip
 (.exit 0)))
 (.seq
 (.block 1
 (.seq
 (.region [⟨(some 38),.fieldAddr 1 (.t 2),none,0,0⟩,
 ⟨(some 39),.load 1 false (.t 38),none,1,0⟩,
 ⟨(some 40),.mov (.t 5),none,0,0⟩,
 ⟨(some 41),.indexAddr 1 (.t 39) (.t 40),none,7,0⟩,
 ⟨(some 42),.load 1 false (.t 41),none,15,0⟩,
 ⟨(some 43),.fieldAddr 1 (.t 3),none,0,0⟩,
 ⟨(some 44),.load 1 false (.t 43),none,32,0⟩,
 ⟨(some 45),.mov (.t 5),none,0,0⟩,
 ⟨(some 46),.indexAddr 1 (.t 44) (.t 45),none,224,0⟩,
 ⟨(some 47),.load 1 false (.t 46),none,480,0⟩,
 ⟨(some 48),.bin .neq (.t 42) (.t 47),none,1023,0⟩] true)
 (.cond (.t 48)
 (.seq
 (.region [⟨(some 4),.mov (.c (.d (.sc (.bool false)))),none,0,0⟩] false)
 .ret)
 .skip)))
 (.region [⟨(some 36),.mov (.t 5),none,0,0⟩,
 ⟨(some 37),.bin .add (.t 36) (.c (.d (.sc (.int .i64 1)))),none,0,0⟩,
 ⟨(some 5),.mov (.t 37),none,0,0⟩] false))))))
 (.seq
 (.seq
 (.region [⟨(some 6),.mov (.c (.d (.sc (.int .i64 0)))),none,0,0⟩] false)
 (.block 2
 (.loop
 (.seq
 (.seq
 (.region [⟨(some 49),.mov (.t 6),none,0,0⟩,
 ⟨(some 50),.fieldAddr 2 (.t 2),none,0,0⟩,
 ⟨(some 51),.load 1 false (.t 50),none,0,0⟩,
 ⟨(some 52),.len (.t 51),none,0,0⟩,
 ⟨(some 53),.bin .lss (.t 49) (.t 52),none,0,0⟩] false)
 (.cond (.t 53)
 .skip
 (.exit 2)))
 (.seq
 (.block 3
 (.seq
 (.region [⟨(some 56),.fieldAddr 2 (.t 2),none,0,0⟩,
 ⟨(some 57),.load 1 false (.t 56),none,1,0⟩,
 ⟨(some 58),.mov (.t 6),none,0,0⟩,
 ⟨(some 59),.indexAddr 7 (.t 57) (.t 58),none,7,0⟩,
 ⟨(some 60),.load 7 true (.t 59),none,15,0⟩,
 ⟨(some 61),.fieldAddr 2 (.t 3),none,0,0⟩,
 ⟨(some 62),.load 1 false (.t 61),none,32,0⟩,
 ⟨(some 63),.mov (.t 6),none,0,0⟩,
 ⟨(some 64),.indexAddr 7 (.t 62) (.t 63),none,224,0⟩,
 ⟨(some 65),.load 7 true (.t 64),none,480,0⟩,
 ⟨(some 66),.callF 39 [(.t 60),(.t 65)],none,1023,0⟩,
 ⟨(some 67),.un .not (.t 66),none,2047,0⟩] true)
 (.cond (.t 67)
 (.seq
 (.region [⟨(some 4),.mov (.c (.d (.sc (.bool false)))),none,0,0⟩] false)
 .ret)
 .skip)))
 (.region [⟨(some 54),.mov (.t 6),none,0,0⟩,
 ⟨(some 55),.bin .add (.t 54) (.c (.d (.sc (.int .i64 1)))),none,0,0⟩,
 ⟨(some 6),.mov (.t 55),none,0,0⟩] false))))))
 (.seq
 (.region [⟨(some 4),.mov (.c (.d (.sc (.bool true)))),none,0,0⟩] false)
 .ret))))),false⟩
def t20:AFn:=⟨0,32,[.t 0],
 (.seq
 (.region [⟨(some 0),.mov (.c (.d (.sc (.bool false)))),none,0,0⟩] false)
 (.seq
 (.region [⟨(some 6),.call 26 [],none,0,0⟩,
 ⟨(some 7),.call 11 [(.t 6)],none,0,0⟩,
 ⟨(some 5),.mov (.t 7),none,0,0⟩,
 ⟨(some 8),.extract (.t 5) 0,none,0,0⟩,
 ⟨(some 9),.extract (.t 5) 1,none,0,0⟩,
 ⟨(some 1),.mov (.t 8),none,0,0⟩,
 ⟨(some 2),.mov (.t 9),none,0,0⟩] false)
 (.seq
 (.region [⟨(some 11),.call 26 [],none,0,0⟩,
 ⟨(some 12),.callF 13 [(.t 11),(.c (.d (.sc (.int .i64 0)))),(.c (.d (.sc (.int .i64 0))))],none,0,0⟩,
 ⟨(some 10),.mov (.t 12),none,0,0⟩,
 ⟨(some 13),.extract (.t 10) 0,none,0,0⟩,
 ⟨(some 14),.extract (.t 10) 1,none,0,0⟩,
 ⟨(some 3),.mov (.t 13),none,0,0⟩,
 ⟨(some 4),.mov (.t 14),none,0,0⟩] false)
 (.seq
 (.region [⟨(some 15),.mov (.t 2),none,0,0⟩,
 ⟨(some 16),.bin .eql (.t 15) (.c (.d (.sc (.int .i64 0)))),none,0,0⟩,
 ⟨(some 17),.mov (.t 16),none,0,0⟩,
 ⟨(some 18),.mov (.t 1),(some (17,true)),0,0⟩,
 ⟨(some 19),.b2s (.t 18),(some (17,true)),0,0⟩,
 ⟨(some 20),.buildSlice 1 17 [(.sc (.int .u8 0))] [(0,(.c (.d (.sc (.int .u8 0))))),(1,(.c (.d (.sc (.int .u8 0))))),(2,(.c (.d (.sc (.int .u8 1))))),(3,(.c (.d (.sc (.int .u8 1))))),(4,(.c (.d (.sc (.int .u8 109))))),(5,(.c (.d (.sc (.int .u8 0))))),(6,(.c (.d (.sc (.int .u8 1))))),(7,(.c (.d (.sc (.int .u8 0))))),(8,(.c (.d (.sc (.int .u8 1))))),(9,(.c (.d (.sc (.int .u8 34))))),(10,(.c (.d (.sc (.int .u8 1))))),(11,(.c (.d (.sc (.int .u8 1))))),(12,(.c (.d (.sc (.int .u8 0))))),(13,(.c (.d (.sc (.int .u8 0))))),(14,(.c (.d (.sc (.int .u8 1))))),(15,(.c (.d (.sc (.int .u8 0))))),(16,(.c (.d (.sc (.int .u8 0)))))],(some (17,true)),0,0⟩,
 ⟨(some 21),.b2s (.t 20),(some (17,true)),0,0⟩,
 ⟨(some 22),.bin .eql (.t 19) (.t 21),(some (17,true)),0,0⟩,
 ⟨(some 23),.pick (.t 17) (.t 22) (.c (.d (.sc (.bool false)))),none,0,0⟩,
 ⟨(some 24),.mov (.t 23),none,0,0⟩,
 ⟨(some 25),.mov (.t 4),(some (24,true)),0,0⟩,
 ⟨(some 26),.bin .eql (.t 25) (.c (.d (.sc (.int .i64 0)))),(some (24,true)),0,0⟩,
 ⟨(some 27),.pick (.t 24) (.t 26) (.c (.d (.sc (.bool false)))),none,0,0⟩,
 ⟨(some 28),.mov (.t 27),none,0,0⟩,
 ⟨(some 29),.mov (.t 3),(some (28,true)),0,0⟩,
 ⟨(some 30),.bin .eql (.t 29) (.c (.d (.sc (.int .u64 256)))),(some (28,true)),0,0⟩,
 ⟨(some 31),.pick (.t 28) (.t 30) (.c (.d (.sc (.bool false)))),none,0,0⟩,
 ⟨(some 0),.mov (.t 31),none,0,0⟩] false)
 .ret)))),false⟩
def t22:AFn:=⟨1,61,[.cell 2 3 true,.t 3],
 (.seq
 (.region [⟨(some 2),.alloc [(.own [] .full),(.own [] .full),(.own [] .full)],none,0,0⟩,
 ⟨(some 3),.mov (.c (.d (.sc (.int .i64 0)))),none,0,0⟩] false)
 (.seq
 (.seq
 (.region [⟨(some 6),.mov (.t 0),none,0,0⟩,
 ⟨(some 7),.len (.t 6),none,0,0⟩,
 ⟨(some 8),.bin .gtr (.t 7) (.c (.d (.sc (.int .i64 20000)))),none,0,0⟩] false)
 (.cond (.t 8)
 (.seq
 (.region [⟨(some 9),.build [(.own [] .full),(.own [] .full),(.own [] .full)] [],none,0,0⟩,
 ⟨none,.store 3 (.t 2) (.t 9),none,0,0⟩,
 ⟨(some 3),.mov (.c (.d (.sc (.int .i64 4)))),none,0,0⟩] false)
 .ret)
 .skip))
 (.seq
 (.region [⟨(some 4),.alloc [(.own [] .full),(.own [] .full),(.own [] .full)],none,0,0⟩] false)
 (.seq
 (.region [⟨(some 10),.mov (.t 0),none,0,0⟩,
 ⟨(some 11),.build [(.own [] .full),(.d (.sc (.int .i64 0)))] [(0,1,(.t 10))],none,0,0⟩,
 ⟨(some 12),.build [(.own [] .full),(.d (.sc (.int .i64 0))),(.d (.sc (.int .i64 0)))] [(0,2,(.t 11))],none,0,0⟩,
 ⟨(some 5),.alloc [(.own [] .full),(.d (.sc (.int .i64 0))),(.d (.sc (.int .i64 0)))],none,0,0⟩,
 ⟨none,.store 3 (.t 5) (.t 12),none,0,0⟩] false)
 (.seq
 (.seq
 (.region [⟨(some 13),.call 47 [(.t 5),(.c (.d (.sc (.int .i64 32))))],none,0,0⟩,
 ⟨(some 14),.mov (.c (.d (.sc (.int .i64 0)))),none,0,0⟩] false)
 (.block 0
 (.loop
 (.seq
 (.region [⟨(some 15),.bin .lss (.t 14) (.t 13),none,0,0⟩] false)
 (.seq
 (.cond (.t 15)
 .skip
 (.exit 0))
 (.seq
 (.block 1
 (.region [⟨(some 16),.fieldAddr 0 (.t 4),none,0,0⟩,
 ⟨(some 17),.load 1 false (.t 16),none,1,0⟩,
 ⟨(some 18),.call 48 [(.t 5)],none,0,0⟩,
 ⟨(some 19),.buildSlice 4 1 [(.sc (.int .u8 0)),(.sc (.int .i64 0)),(.sc (.int .i64 0)),(.sl [])] [(0,(.t 18))],none,4,0⟩,
 ⟨(some 20),.append 4 48 (.t 17) (.t 19),none,15,0⟩,
 ⟨(some 21),.fieldAddr 0 (.t 4),none,31,0⟩,
 ⟨none,.store 1 (.t 21) (.t 20),none,63,0⟩] true))
 (.region [⟨(some 22),.bin .add (.t 14) (.c (.d (.sc (.int .i64 1)))),none,0,0⟩,
 ⟨(some 14),.mov (.t 22),none,0,0⟩] false)))))))
 (.seq
 (.seq
 (.region [⟨(some 23),.call 47 [(.t 5),(.c (.d (.sc (.int .i64 32))))],none,0,0⟩,
 ⟨(some 24),.mov (.c (.d (.sc (.int .i64 0)))),none,0,0⟩] false)
 (.block 2
 (.loop
 (.seq
 (.region [⟨(some 25),.bin .lss (.t 24) (.t 23),none,0,0⟩] false)
 (.seq
 (.cond (.t 25)
 .skip
 (.exit 2))
 (.seq
 (.block 3
 (.region [⟨(some 26),.fieldAddr 1 (.t 4),none,0,0⟩,
 ⟨(some 27),.load 1 false (.t 26),none,1,0⟩,
 ⟨(some 28),.call 49 [(.t 5),(.c (.d (.sc (.int .i64 64))))],none,0,0⟩,
 ⟨(some 29),.buildSlice 1 1 [(.sc (.string ⟨#[]⟩))] [(0,(.t 28))],none,4,0⟩,
 ⟨(some 30),.append 1 16 (.t 27) (.t 29),none,15,0⟩,
 ⟨(some 31),.fieldAddr 1 (.t 4),none,31,0⟩,
 ⟨none,.store 1 (.t 31) (.t 30),none,63,0⟩] true))
 (.region [⟨(some 32),.bin .add (.t 24) (.c (.d (.sc (.int .i64 1)))),none,0,0⟩,
 ⟨(some 24),.mov (.t 32),none,0,0⟩] false)))))))
 (.seq
 (.seq
 (.region [⟨(some 33),.call 47 [(.t 5),(.c (.d (.sc (.int .i64 32))))],none,0,0⟩,
 ⟨(some 34),.mov (.c (.d (.sc (.int .i64 0)))),none,0,0⟩] false)
 (.block 4
 (.loop
 (.seq
 (.region [⟨(some 35),.bin .lss (.t 34) (.t 33),none,0,0⟩] false)
 (.seq
 (.cond (.t 35)
 .skip
 (.exit 4))
 (.seq
 (.block 5
 (.region [⟨(some 36),.fieldAddr 2 (.t 4),none,0,0⟩,
 ⟨(some 37),.load 1 false (.t 36),none,1,0⟩,
 ⟨(some 38),.call 50 [(.t 5)],none,0,0⟩,
 ⟨(some 39),.buildSlice 7 1 [(.sc (.string ⟨#[]⟩)),(.sc (.int .i64 0)),(.sc (.int .i64 0)),(.sl []),(.sl []),(.sl []),(.sl [])] [(0,(.t 38))],none,4,0⟩,
 ⟨(some 40),.append 7 128 (.t 37) (.t 39),none,15,0⟩,
 ⟨(some 41),.fieldAddr 2 (.t 4),none,31,0⟩,
 ⟨none,.store 1 (.t 41) (.t 40),none,63,0⟩] true))
 (.region [⟨(some 42),.bin .add (.t 34) (.c (.d (.sc (.int .i64 1)))),none,0,0⟩,
 ⟨(some 34),.mov (.t 42),none,0,0⟩] false)))))))
 (.seq
 (.seq
 (.region [⟨(some 43),.fieldAddr 2 (.t 5),none,0,0⟩,
 ⟨(some 44),.load 1 false (.t 43),none,0,0⟩,
 ⟨(some 45),.bin .neq (.t 44) (.c (.d (.sc (.int .i64 0)))),none,0,0⟩,
 ⟨(some 46),.mov (.t 45),none,0,0⟩,
 ⟨(some 47),.fieldAddr 0 (.t 5),(some (46,false)),0,0⟩,
 ⟨(some 48),.fieldAddr 1 (.t 47),(some (46,false)),0,0⟩,
 ⟨(some 49),.load 1 false (.t 48),(some (46,false)),0,0⟩,
 ⟨(some 50),.mov (.t 0),(some (46,false)),0,0⟩,
 ⟨(some 51),.len (.t 50),(some (46,false)),0,0⟩,
 ⟨(some 52),.bin .neq (.t 49) (.t 51),(some (46,false)),0,0⟩,
 ⟨(some 53),.pick (.t 46) (.c (.d (.sc (.bool true)))) (.t 52),none,0,0⟩,
 ⟨(some 54),.mov (.t 53),none,0,0⟩,
 ⟨(some 55),.load 3 true (.t 4),(some (54,false)),0,0⟩,
 ⟨(some 56),.callF 30 [(.t 55)],(some (54,false)),0,0⟩,
 ⟨(some 57),.un .not (.t 56),(some (54,false)),0,0⟩,
 ⟨(some 58),.pick (.t 54) (.c (.d (.sc (.bool true)))) (.t 57),none,0,0⟩] false)
 (.cond (.t 58)
 (.seq
 (.region [⟨(some 59),.build [(.own [] .full),(.own [] .full),(.own [] .full)] [],none,0,0⟩,
 ⟨none,.store 3 (.t 2) (.t 59),none,0,0⟩,
 ⟨(some 3),.mov (.c (.d (.sc (.int .i64 12)))),none,0,0⟩] false)
 .ret)
 .skip))
 (.seq
 (.region [⟨(some 60),.load 3 true (.t 4),none,0,0⟩,
 ⟨none,.store 3 (.t 2) (.t 60),none,0,0⟩,
 ⟨(some 3),.mov (.c (.d (.sc (.int .i64 0)))),none,0,0⟩] false)
 .ret))))))))),false⟩
def t24:AFn:=⟨2,47,[.t 4],
 (.seq
 (.region [⟨(some 2),.box (.t 0),none,0,0⟩,
 ⟨(some 4),.mov (.c (.d (.sc (.bool false)))),none,0,0⟩] false)
 (.seq
 (.region [⟨(some 13),.load 3 true (.t 2),none,0,0⟩,
 ⟨(some 14),.call 11 [(.t 13)],none,0,0⟩,
 ⟨(some 12),.mov (.t 14),none,0,0⟩,
 ⟨(some 15),.extract (.t 12) 0,none,0,0⟩,
 ⟨(some 16),.extract (.t 12) 1,none,0,0⟩,
 ⟨(some 5),.mov (.t 15),none,0,0⟩,
 ⟨(some 6),.mov (.t 16),none,0,0⟩] false)
 (.seq
 (.region [⟨(some 18),.load 3 true (.t 2),none,0,0⟩,
 ⟨(some 19),.callF 13 [(.t 18),(.c (.d (.sc (.int .i64 (-1))))),(.c (.d (.sc (.int .i64 (-1)))))],none,0,0⟩,
 ⟨(some 17),.mov (.t 19),none,0,0⟩,
 ⟨(some 20),.extract (.t 17) 0,none,0,0⟩,
 ⟨(some 21),.extract (.t 17) 1,none,0,0⟩,
 ⟨(some 7),.mov (.t 20),none,0,0⟩,
 ⟨(some 8),.mov (.t 21),none,0,0⟩] false)
 (.seq
 (.region [⟨(some 23),.load 3 true (.t 2),none,0,0⟩,
 ⟨(some 24),.callF 15 [(.t 23),(.c (.d (.sc (.int .u64 0))))],none,0,0⟩,
 ⟨(some 22),.mov (.t 24),none,0,0⟩,
 ⟨(some 25),.extract (.t 22) 0,none,0,0⟩,
 ⟨(some 26),.extract (.t 22) 1,none,0,0⟩,
 ⟨(some 27),.extract (.t 22) 2,none,0,0⟩,
 ⟨(some 9),.mov (.t 25),none,0,0⟩,
 ⟨(some 10),.mov (.t 26),none,0,0⟩,
 ⟨(some 11),.mov (.t 27),none,0,0⟩] false)
 (.seq
 (.region [⟨(some 28),.load 3 true (.t 2),none,0,0⟩,
 ⟨(some 29),.callF 17 [(.t 28)],none,0,0⟩,
 ⟨(some 30),.mov (.t 1),none,0,0⟩,
 ⟨(some 31),.bin .eql (.t 29) (.t 30),none,0,0⟩,
 ⟨(some 32),.mov (.t 31),none,0,0⟩,
 ⟨(some 33),.mov (.t 6),(some (32,true)),0,0⟩,
 ⟨(some 34),.mov (.t 1),(some (32,true)),0,0⟩,
 ⟨(some 35),.bin .eql (.t 33) (.t 34),(some (32,true)),0,0⟩,
 ⟨(some 36),.pick (.t 32) (.t 35) (.c (.d (.sc (.bool false)))),none,0,0⟩,
 ⟨(some 37),.mov (.t 36),none,0,0⟩,
 ⟨(some 38),.mov (.t 8),(some (37,true)),0,0⟩,
 ⟨(some 39),.mov (.t 1),(some (37,true)),0,0⟩,
 ⟨(some 40),.bin .eql (.t 38) (.t 39),(some (37,true)),0,0⟩,
 ⟨(some 41),.pick (.t 37) (.t 40) (.c (.d (.sc (.bool false)))),none,0,0⟩,
 ⟨(some 42),.mov (.t 41),none,0,0⟩,
 ⟨(some 43),.mov (.t 11),(some (42,true)),0,0⟩,
 ⟨(some 44),.mov (.t 1),(some (42,true)),0,0⟩,
 ⟨(some 45),.bin .eql (.t 43) (.t 44),(some (42,true)),0,0⟩,
 ⟨(some 46),.pick (.t 42) (.t 45) (.c (.d (.sc (.bool false)))),none,0,0⟩,
 ⟨(some 4),.mov (.t 46),none,0,0⟩] false)
 .ret))))),false⟩
def t25:AFn:=⟨1,107,[.cell 2 3 true],
 (.seq
 (.region [⟨(some 2),.alloc [(.own [] .full),(.own [] .full),(.own [] .full)],none,0,0⟩] false)
 (.seq
 (.region [⟨(some 5),.call 26 [],none,0,458755⟩,
 ⟨(some 3),.alloc [(.own [] .full),(.own [] .full),(.own [] .full)],none,0,0⟩,
 ⟨none,.store 3 (.t 3) (.t 5),none,0,0⟩] false)
 (.seq
 (.region [⟨(some 6),.fieldAddr 2 (.t 3),none,0,0⟩,
 ⟨(some 7),.load 1 false (.t 6),none,0,0⟩,
 ⟨(some 8),.indexAddr 7 (.t 7) (.c (.d (.sc (.int .i64 0)))),none,0,0⟩,
 ⟨(some 4),.mov (.t 8),none,0,0⟩] false)
 (.seq
 (.seq
 (.region [⟨(some 9),.mov (.t 0),none,0,0⟩] false)
 (.block 0
 (.seq
 (.region [⟨(some 11),.bin .eql (.t 9) (.c (.d (.sc (.int .i64 0)))),none,0,0⟩,
 ⟨(some 10),.mov (.t 11),none,0,0⟩] false)
 (.cond (.t 10)
 (.region [⟨(some 12),.build [(.d (.sc (.int .u8 0))),(.d (.sc (.int .i64 0))),(.d (.sc (.int .i64 0))),(.own [] .full)] [],none,0,0⟩,
 ⟨(some 13),.buildSlice 4 1 [(.sc (.int .u8 0)),(.sc (.int .i64 0)),(.sc (.int .i64 0)),(.sl [])] [(0,(.t 12))],none,0,0⟩,
 ⟨(some 14),.fieldAddr 0 (.t 3),none,0,0⟩,
 ⟨none,.store 1 (.t 14) (.t 13),none,0,0⟩] false)
 (.seq
 (.region [⟨(some 16),.bin .eql (.t 9) (.c (.d (.sc (.int .i64 1)))),none,0,0⟩,
 ⟨(some 15),.mov (.t 16),none,0,0⟩] false)
 (.cond (.t 15)
 (.region [⟨(some 17),.build [(.d (.sc (.int .u8 0))),(.d (.sc (.int .i64 0))),(.d (.sc (.int .i64 0))),(.own [] .full)] [(0,1,(.c (.d (.sc (.int .u8 3)))))],none,0,0⟩,
 ⟨(some 18),.build [(.d (.sc (.int .u8 0))),(.d (.sc (.int .i64 0))),(.d (.sc (.int .i64 0))),(.own [] .full)] [(0,1,(.c (.d (.sc (.int .u8 6))))),(2,1,(.c (.d (.sc (.int .i64 16)))))],none,0,0⟩,
 ⟨(some 19),.build [(.d (.sc (.string ⟨#[]⟩))),(.d (.sc (.int .i64 0)))] [(0,1,(.c (.d (.sc (.string ⟨#[97]⟩))))),(1,1,(.c (.d (.sc (.int .i64 1)))))],none,0,0⟩,
 ⟨(some 20),.build [(.d (.sc (.string ⟨#[]⟩))),(.d (.sc (.int .i64 0)))] [(0,1,(.c (.d (.sc (.string ⟨#[98]⟩))))),(1,1,(.c (.d (.sc (.int .i64 0)))))],none,0,0⟩,
 ⟨(some 21),.buildSlice 2 2 [(.sc (.string ⟨#[]⟩)),(.sc (.int .i64 0))] [(0,(.t 19)),(1,(.t 20))],none,0,0⟩,
 ⟨(some 22),.build [(.d (.sc (.int .u8 0))),(.d (.sc (.int .i64 0))),(.d (.sc (.int .i64 0))),(.own [] .full)] [(0,1,(.c (.d (.sc (.int .u8 5))))),(3,1,(.t 21))],none,0,0⟩,
 ⟨(some 23),.buildSlice 4 3 [(.sc (.int .u8 0)),(.sc (.int .i64 0)),(.sc (.int .i64 0)),(.sl [])] [(0,(.t 17)),(1,(.t 18)),(2,(.t 22))],none,0,0⟩,
 ⟨(some 24),.fieldAddr 0 (.t 3),none,0,0⟩,
 ⟨none,.store 1 (.t 24) (.t 23),none,0,0⟩] false)
 (.seq
 (.region [⟨(some 26),.bin .eql (.t 9) (.c (.d (.sc (.int .i64 2)))),none,0,0⟩,
 ⟨(some 25),.mov (.t 26),none,0,0⟩] false)
 (.cond (.t 25)
 (.region [⟨(some 27),.makeSlice 1 16 [(.sc (.string ⟨#[]⟩))] (.c (.d (.sc (.int .i64 33)))) (.c (.d (.sc (.int .i64 33)))),none,0,0⟩,
 ⟨(some 28),.fieldAddr 1 (.t 3),none,0,0⟩,
 ⟨none,.store 1 (.t 28) (.t 27),none,0,0⟩] false)
 (.seq
 (.region [⟨(some 30),.bin .eql (.t 9) (.c (.d (.sc (.int .i64 3)))),none,0,0⟩,
 ⟨(some 29),.mov (.t 30),none,0,0⟩] false)
 (.cond (.t 29)
 (.region [⟨(some 31),.makeSlice 1 1 [(.sc (.int .u8 0))] (.c (.d (.sc (.int .i64 65)))) (.c (.d (.sc (.int .i64 65)))),none,0,0⟩,
 ⟨(some 32),.b2s (.t 31),none,0,0⟩,
 ⟨(some 33),.buildSlice 1 1 [(.sc (.string ⟨#[]⟩))] [(0,(.t 32))],none,0,0⟩,
 ⟨(some 34),.fieldAddr 1 (.t 3),none,0,0⟩,
 ⟨none,.store 1 (.t 34) (.t 33),none,0,0⟩] false)
 (.seq
 (.region [⟨(some 36),.bin .eql (.t 9) (.c (.d (.sc (.int .i64 4)))),none,0,0⟩,
 ⟨(some 35),.mov (.t 36),none,0,0⟩] false)
 (.cond (.t 35)
 (.region [⟨(some 37),.fieldAddr 2 (.t 3),none,0,0⟩,
 ⟨none,.store 1 (.t 37) (.c (.own [] .full)),none,0,0⟩] false)
 (.seq
 (.region [⟨(some 39),.bin .eql (.t 9) (.c (.d (.sc (.int .i64 5)))),none,0,0⟩,
 ⟨(some 38),.mov (.t 39),none,0,0⟩] false)
 (.cond (.t 38)
 (.region [⟨(some 40),.fieldAddr 2 (.t 3),none,0,0⟩,
 ⟨(some 41),.load 1 false (.t 40),none,1,0⟩,
 ⟨(some 42),.mov (.t 4),none,0,0⟩,
 ⟨(some 43),.nilCheck (.t 42),none,4,0⟩,
 ⟨(some 44),.load 7 true (.t 43),none,12,0⟩,
 ⟨(some 45),.buildSlice 7 1 [(.sc (.string ⟨#[]⟩)),(.sc (.int .i64 0)),(.sc (.int .i64 0)),(.sl []),(.sl []),(.sl []),(.sl [])] [(0,(.t 44))],none,28,0⟩,
 ⟨(some 46),.append 7 128 (.t 41) (.t 45),none,63,1⟩,
 ⟨(some 47),.fieldAddr 2 (.t 3),none,127,0⟩,
 ⟨none,.store 1 (.t 47) (.t 46),none,255,0⟩] true)
 (.seq
 (.region [⟨(some 49),.bin .eql (.t 9) (.c (.d (.sc (.int .i64 6)))),none,0,0⟩,
 ⟨(some 48),.mov (.t 49),none,0,0⟩] false)
 (.cond (.t 48)
 (.region [⟨(some 50),.mov (.t 4),none,0,0⟩,
 ⟨(some 51),.nilCheck (.t 50),none,0,0⟩,
 ⟨(some 52),.fieldAddr 0 (.t 51),none,0,0⟩,
 ⟨none,.store 1 (.t 52) (.c (.d (.sc (.string ⟨#[]⟩)))),none,0,0⟩] false)
 (.seq
 (.region [⟨(some 54),.bin .eql (.t 9) (.c (.d (.sc (.int .i64 7)))),none,0,0⟩,
 ⟨(some 53),.mov (.t 54),none,0,0⟩] false)
 (.cond (.t 53)
 (.region [⟨(some 55),.mov (.t 4),none,0,0⟩,
 ⟨(some 56),.nilCheck (.t 55),none,0,0⟩,
 ⟨(some 57),.fieldAddr 1 (.t 56),none,0,0⟩,
 ⟨none,.store 1 (.t 57) (.c (.d (.sc (.int .i64 1)))),none,0,0⟩] false)
 (.seq
 (.region [⟨(some 59),.bin .eql (.t 9) (.c (.d (.sc (.int .i64 8)))),none,0,0⟩,
 ⟨(some 58),.mov (.t 59),none,0,0⟩] false)
 (.cond (.t 58)
 (.region [⟨(some 60),.mov (.t 4),none,0,0⟩,
 ⟨(some 61),.nilCheck (.t 60),none,0,0⟩,
 ⟨(some 62),.fieldAddr 2 (.t 61),none,0,0⟩,
 ⟨none,.store 1 (.t 62) (.c (.d (.sc (.int .i64 0)))),none,0,0⟩] false)
 (.seq
 (.region [⟨(some 64),.bin .eql (.t 9) (.c (.d (.sc (.int .i64 9)))),none,0,0⟩,
 ⟨(some 63),.mov (.t 64),none,0,0⟩] false)
 (.cond (.t 63)
 (.region [⟨(some 65),.mov (.t 4),none,0,0⟩,
 ⟨(some 66),.build [(.d (.sc (.string ⟨#[]⟩))),(.d (.sc (.int .i64 0)))] [(0,1,(.c (.d (.sc (.string ⟨#[97]⟩)))))],none,0,0⟩,
 ⟨(some 67),.buildSlice 2 1 [(.sc (.string ⟨#[]⟩)),(.sc (.int .i64 0))] [(0,(.t 66))],none,0,0⟩,
 ⟨(some 68),.nilCheck (.t 65),none,0,0⟩,
 ⟨(some 69),.fieldAddr 3 (.t 68),none,0,0⟩,
 ⟨none,.store 1 (.t 69) (.t 67),none,0,0⟩] false)
 (.seq
 (.region [⟨(some 71),.bin .eql (.t 9) (.c (.d (.sc (.int .i64 10)))),none,0,0⟩,
 ⟨(some 70),.mov (.t 71),none,0,0⟩] false)
 (.cond (.t 70)
 (.region [⟨(some 72),.mov (.t 4),none,0,0⟩,
 ⟨(some 73),.nilCheck (.t 72),none,0,0⟩,
 ⟨(some 74),.fieldAddr 4 (.t 73),none,0,0⟩,
 ⟨none,.store 1 (.t 74) (.c (.own [] .full)),none,0,0⟩] false)
 (.seq
 (.region [⟨(some 76),.bin .eql (.t 9) (.c (.d (.sc (.int .i64 11)))),none,0,0⟩,
 ⟨(some 75),.mov (.t 76),none,0,0⟩] false)
 (.cond (.t 75)
 (.region [⟨(some 77),.mov (.t 4),none,0,0⟩,
 ⟨(some 78),.nilCheck (.t 77),none,0,0⟩,
 ⟨(some 79),.fieldAddr 4 (.t 78),none,0,0⟩,
 ⟨(some 80),.load 1 false (.t 79),none,0,0⟩,
 ⟨(some 81),.indexAddr 4 (.t 80) (.c (.d (.sc (.int .i64 0)))),none,0,0⟩,
 ⟨(some 82),.fieldAddr 2 (.t 81),none,0,0⟩,
 ⟨none,.store 1 (.t 82) (.c (.d (.sc (.int .i64 1)))),none,0,0⟩] false)
 (.seq
 (.region [⟨(some 84),.bin .eql (.t 9) (.c (.d (.sc (.int .i64 12)))),none,0,0⟩,
 ⟨(some 83),.mov (.t 84),none,0,0⟩] false)
 (.cond (.t 83)
 (.region [⟨(some 85),.mov (.t 4),none,0,0⟩,
 ⟨(some 86),.nilCheck (.t 85),none,0,0⟩,
 ⟨(some 87),.fieldAddr 5 (.t 86),none,0,0⟩,
 ⟨none,.store 1 (.t 87) (.c (.own [] .full)),none,0,0⟩] false)
 (.seq
 (.region [⟨(some 89),.bin .eql (.t 9) (.c (.d (.sc (.int .i64 13)))),none,0,0⟩,
 ⟨(some 88),.mov (.t 89),none,0,0⟩] false)
 (.cond (.t 88)
 (.region [⟨(some 90),.mov (.t 4),none,0,0⟩,
 ⟨(some 91),.build [(.d (.sc (.int .i64 0))),(.d (.sc (.int .u64 0)))] [],none,0,0⟩,
 ⟨(some 92),.build [(.d (.sc (.int .i64 0))),(.d (.sc (.int .u64 0)))] [(0,1,(.c (.d (.sc (.int .i64 1))))),(1,1,(.c (.d (.sc (.int .u64 1)))))],none,0,0⟩,
 ⟨(some 93),.buildSlice 2 2 [(.sc (.int .i64 0)),(.sc (.int .u64 0))] [(0,(.t 91)),(1,(.t 92))],none,0,0⟩,
 ⟨(some 94),.nilCheck (.t 90),none,0,0⟩,
 ⟨(some 95),.fieldAddr 6 (.t 94),none,0,0⟩,
 ⟨none,.store 1 (.t 95) (.t 93),none,0,0⟩] false)
 (.seq
 (.region [⟨(some 97),.bin .eql (.t 9) (.c (.d (.sc (.int .i64 14)))),none,0,0⟩,
 ⟨(some 96),.mov (.t 97),none,0,0⟩] false)
 (.cond (.t 96)
 (.region [⟨(some 98),.mov (.t 4),none,0,0⟩,
 ⟨(some 99),.nilCheck (.t 98),none,0,0⟩,
 ⟨(some 100),.fieldAddr 1 (.t 99),none,0,0⟩,
 ⟨none,.store 1 (.t 100) (.c (.d (.sc (.int .i64 (-1))))),none,0,0⟩] false)
 (.seq
 (.region [⟨(some 102),.bin .eql (.t 9) (.c (.d (.sc (.int .i64 15)))),none,0,0⟩,
 ⟨(some 101),.mov (.t 102),none,0,0⟩] false)
 (.cond (.t 101)
 (.region [⟨(some 103),.mov (.t 4),none,0,0⟩,
 ⟨(some 104),.nilCheck (.t 103),none,0,0⟩,
 ⟨(some 105),.fieldAddr 2 (.t 104),none,0,0⟩,
 ⟨none,.store 1 (.t 105) (.c (.d (.sc (.int .i64 (-2))))),none,0,0⟩] false)
 .skip))))))))))))))))))))))))))))))))))
 (.seq
 (.region [⟨(some 106),.load 3 true (.t 3),none,0,0⟩,
 ⟨none,.store 3 (.t 2) (.t 106),none,0,0⟩] false)
 .ret))))),false⟩
def t26:AFn:=⟨0,10,[.cell 0 3 true],
 (.seq
 (.region [⟨(some 0),.alloc [(.own [] .full),(.own [] .full),(.own [] .full)],none,0,0⟩] false)
 (.seq
 (.region [⟨(some 1),.build [(.d (.sc (.int .u8 0))),(.d (.sc (.int .i64 0))),(.d (.sc (.int .i64 0))),(.d (.sc (.int .i64 0)))] [(0,1,(.c (.d (.sc (.int .u8 34))))),(1,1,(.c (.d (.sc (.int .i64 (-1))))))],none,0,0⟩,
 ⟨(some 2),.buildSlice 4 1 [(.sc (.int .u8 0)),(.sc (.int .i64 0)),(.sc (.int .i64 0)),(.sc (.int .i64 0))] [(0,(.t 1))],none,0,0⟩,
 ⟨(some 3),.build [(.d (.sc (.int .i64 0))),(.d (.sc (.int .u64 0)))] [],none,0,0⟩,
 ⟨(some 4),.buildSlice 2 1 [(.sc (.int .i64 0)),(.sc (.int .u64 0))] [(0,(.t 3))],none,0,0⟩,
 ⟨(some 5),.build [(.d (.sc (.int .i64 0))),(.d (.sc (.int .u64 0)))] [],none,0,0⟩,
 ⟨(some 6),.buildSlice 2 1 [(.sc (.int .i64 0)),(.sc (.int .u64 0))] [(0,(.t 5))],none,0,0⟩,
 ⟨(some 7),.build [(.d (.sc (.string ⟨#[]⟩))),(.d (.sc (.int .i64 0))),(.d (.sc (.int .i64 0))),(.own [] .full),(.own [] .full),(.own [] .full),(.own [] .full)] [(0,1,(.c (.d (.sc (.string ⟨#[109]⟩))))),(2,1,(.c (.d (.sc (.int .i64 (-1)))))),(4,1,(.t 2)),(5,1,(.t 4)),(6,1,(.t 6))],none,0,0⟩,
 ⟨(some 8),.buildSlice 7 1 [(.sc (.string ⟨#[]⟩)),(.sc (.int .i64 0)),(.sc (.int .i64 0)),(.sl []),(.sl []),(.sl []),(.sl [])] [(0,(.t 7))],none,0,1⟩,
 ⟨(some 9),.build [(.own [] .full),(.own [] .full),(.own [] .full)] [(2,1,(.t 8))],none,0,0⟩,
 ⟨none,.store 3 (.t 0) (.t 9),none,0,0⟩] false)
 .ret)),false⟩
def t27:AFn:=⟨2,42,[.cell 4 3 true],
 (.seq
 (.region [⟨(some 3),.box (.t 1),none,0,0⟩,
 ⟨(some 4),.alloc [(.own [] .full),(.own [] .full),(.own [] .full)],none,0,0⟩] false)
 (.seq
 (.region [⟨(some 5),.alloc [(.own [] .full),(.own [] .full),(.own [] .full)],none,0,0⟩] false)
 (.seq
 (.seq
 (.region [⟨(some 6),.mov (.c (.d (.sc (.int .i64 0)))),none,0,0⟩] false)
 (.block 0
 (.loop
 (.seq
 (.seq
 (.region [⟨(some 9),.mov (.t 6),none,0,0⟩,
 ⟨(some 10),.mov (.t 0),none,0,0⟩,
 ⟨(some 11),.bin .lss (.t 9) (.t 10),none,0,0⟩] false)
 (.cond (.t 11)
 .skip
 (.exit 0)))
 (.seq
 (.block 1
 (.seq
 (.region [⟨(some 14),.mov (.t 6),none,0,0⟩,
 ⟨(some 15),.bin .add (.c (.d (.sc (.int .i64 97)))) (.t 14),none,0,0⟩,
 ⟨(some 16),.conv .u8 (.t 15),none,0,0⟩,
 ⟨(some 17),.buildSlice 1 1 [(.sc (.int .u8 0))] [(0,(.t 16))],none,0,0⟩,
 ⟨(some 18),.b2s (.t 17),none,0,0⟩,
 ⟨(some 19),.bin .add (.c (.d (.sc (.string ⟨#[102]⟩)))) (.t 18),none,0,0⟩,
 ⟨(some 20),.build [(.d (.sc (.int .i64 0))),(.d (.sc (.int .u64 0)))] [],none,0,0⟩,
 ⟨(some 21),.buildSlice 2 1 [(.sc (.int .i64 0)),(.sc (.int .u64 0))] [(0,(.t 20))],none,0,0⟩,
 ⟨(some 22),.build [(.d (.sc (.int .i64 0))),(.d (.sc (.int .u64 0)))] [],none,0,0⟩,
 ⟨(some 23),.buildSlice 2 1 [(.sc (.int .i64 0)),(.sc (.int .u64 0))] [(0,(.t 22))],none,0,0⟩,
 ⟨(some 24),.build [(.d (.sc (.string ⟨#[]⟩))),(.d (.sc (.int .i64 0))),(.d (.sc (.int .i64 0))),(.own [] .full),(.own [] .full),(.own [] .full),(.own [] .full)] [(0,1,(.t 19)),(2,1,(.c (.d (.sc (.int .i64 (-1)))))),(5,1,(.t 21)),(6,1,(.t 23))],none,0,0⟩,
 ⟨(some 7),.alloc [(.d (.sc (.string ⟨#[]⟩))),(.d (.sc (.int .i64 0))),(.d (.sc (.int .i64 0))),(.own [] .full),(.own [] .full),(.own [] .full),(.own [] .full)],none,0,0⟩,
 ⟨none,.store 7 (.t 7) (.t 24),none,0,0⟩] false)
 (.seq
 (.seq
 (.region [⟨(some 8),.mov (.c (.d (.sc (.int .i64 0)))),none,0,0⟩] false)
 (.block 2
 (.loop
 (.seq
 (.seq
 (.region [⟨(some 25),.mov (.t 8),none,0,0⟩,
 ⟨(some 26),.bin .lss (.t 25) (.c (.d (.sc (.int .i64 200)))),none,0,0⟩] false)
 (.cond (.t 26)
 .skip
 (.exit 2)))
 (.seq
 (.block 3
 (.region [⟨(some 29),.fieldAddr 4 (.t 7),none,0,0⟩,
 ⟨(some 30),.load 1 false (.t 29),none,0,0⟩,
 ⟨(some 31),.load 4 true (.t 3),none,0,0⟩,
 ⟨(some 32),.buildSlice 4 1 [(.sc (.int .u8 0)),(.sc (.int .i64 0)),(.sc (.int .i64 0)),(.sc (.int .i64 0))] [(0,(.t 31))],none,0,0⟩,
 ⟨(some 33),.append 4 32 (.t 30) (.t 32),none,0,0⟩,
 ⟨(some 34),.fieldAddr 4 (.t 7),none,0,0⟩,
 ⟨none,.store 1 (.t 34) (.t 33),none,0,0⟩] false))
 (.region [⟨(some 27),.mov (.t 8),none,0,0⟩,
 ⟨(some 28),.bin .add (.t 27) (.c (.d (.sc (.int .i64 1)))),none,0,0⟩,
 ⟨(some 8),.mov (.t 28),none,0,0⟩] false))))))
 (.region [⟨(some 35),.fieldAddr 2 (.t 5),none,0,0⟩,
 ⟨(some 36),.load 1 false (.t 35),none,0,0⟩,
 ⟨(some 37),.load 7 true (.t 7),none,0,0⟩,
 ⟨(some 38),.buildSlice 7 1 [(.sc (.string ⟨#[]⟩)),(.sc (.int .i64 0)),(.sc (.int .i64 0)),(.sl []),(.sl []),(.sl []),(.sl [])] [(0,(.t 37))],none,0,0⟩,
 ⟨(some 39),.append 7 128 (.t 36) (.t 38),none,0,0⟩,
 ⟨(some 40),.fieldAddr 2 (.t 5),none,0,0⟩,
 ⟨none,.store 1 (.t 40) (.t 39),none,0,0⟩] false))))
 (.region [⟨(some 12),.mov (.t 6),none,0,0⟩,
 ⟨(some 13),.bin .add (.t 12) (.c (.d (.sc (.int .i64 1)))),none,0,0⟩,
 ⟨(some 6),.mov (.t 13),none,0,0⟩] false))))))
 (.seq
 (.region [⟨(some 41),.load 3 true (.t 5),none,0,0⟩,
 ⟨none,.store 3 (.t 4) (.t 41),none,0,0⟩] false)
 .ret)))),false⟩
def t30:AFn:=⟨1,85,[.t 2],
 (.seq
 (.region [⟨(some 1),.box (.t 0),none,0,0⟩,
 ⟨(some 2),.mov (.c (.d (.sc (.bool false)))),none,0,0⟩] false)
 (.seq
 (.seq
 (.region [⟨(some 12),.fieldAddr 0 (.t 1),none,0,0⟩,
 ⟨(some 13),.load 1 false (.t 12),none,0,0⟩,
 ⟨(some 14),.callF 51 [(.t 13)],none,0,0⟩,
 ⟨(some 15),.bin .neq (.t 14) (.c (.d (.sc (.int .i64 0)))),none,0,0⟩,
 ⟨(some 16),.mov (.t 15),none,0,0⟩,
 ⟨(some 17),.fieldAddr 1 (.t 1),(some (16,false)),0,0⟩,
 ⟨(some 18),.load 1 false (.t 17),(some (16,false)),0,0⟩,
 ⟨(some 19),.len (.t 18),(some (16,false)),0,0⟩,
 ⟨(some 20),.bin .gtr (.t 19) (.c (.d (.sc (.int .i64 32)))),(some (16,false)),0,0⟩,
 ⟨(some 21),.pick (.t 16) (.c (.d (.sc (.bool true)))) (.t 20),none,0,0⟩,
 ⟨(some 22),.mov (.t 21),none,0,0⟩,
 ⟨(some 23),.fieldAddr 2 (.t 1),(some (22,false)),0,0⟩,
 ⟨(some 24),.load 1 false (.t 23),(some (22,false)),0,0⟩,
 ⟨(some 25),.len (.t 24),(some (22,false)),0,0⟩,
 ⟨(some 26),.bin .eql (.t 25) (.c (.d (.sc (.int .i64 0)))),(some (22,false)),0,0⟩,
 ⟨(some 27),.pick (.t 22) (.c (.d (.sc (.bool true)))) (.t 26),none,0,0⟩,
 ⟨(some 28),.mov (.t 27),none,0,0⟩,
 ⟨(some 29),.fieldAddr 2 (.t 1),(some (28,false)),0,0⟩,
 ⟨(some 30),.load 1 false (.t 29),(some (28,false)),0,0⟩,
 ⟨(some 31),.len (.t 30),(some (28,false)),0,0⟩,
 ⟨(some 32),.bin .gtr (.t 31) (.c (.d (.sc (.int .i64 32)))),(some (28,false)),0,0⟩,
 ⟨(some 33),.pick (.t 28) (.c (.d (.sc (.bool true)))) (.t 32),none,0,0⟩] false)
 (.cond (.t 33)
 (.seq
 (.region [⟨(some 2),.mov (.c (.d (.sc (.bool false)))),none,0,0⟩] false)
 .ret)
 .skip))
 (.seq
 (.seq
 (.region [⟨(some 34),.fieldAddr 0 (.t 1),none,0,0⟩,
 ⟨(some 35),.load 1 false (.t 34),none,0,0⟩,
 ⟨(some 36),.len (.t 35),none,0,0⟩,
 ⟨(some 37),.mov (.c (.d (.sc (.int .i64 0)))),none,0,0⟩] false)
 (.block 0
 (.loop
 (.seq
 (.region [⟨(some 38),.bin .lss (.t 37) (.t 36),none,0,0⟩] false)
 (.seq
 (.cond (.t 38)
 .skip
 (.exit 0))
 (.seq
 (.block 1
 (.seq
 (.region [⟨(some 39),.mov (.t 37),none,0,0⟩,
 ⟨(some 3),.mov (.t 39),none,0,0⟩] false)
 (.seq
 (.region [⟨(some 41),.fieldAddr 0 (.t 1),none,0,0⟩,
 ⟨(some 42),.load 1 false (.t 41),none,0,0⟩,
 ⟨(some 43),.mov (.t 3),none,0,0⟩,
 ⟨(some 44),.callF 52 [(.t 42),(.t 43)],none,0,0⟩,
 ⟨(some 40),.mov (.t 44),none,0,0⟩,
 ⟨(some 45),.extract (.t 40) 0,none,0,0⟩,
 ⟨(some 46),.extract (.t 40) 1,none,0,0⟩,
 ⟨(some 47),.extract (.t 40) 2,none,0,0⟩,
 ⟨(some 4),.mov (.t 45),none,0,0⟩,
 ⟨(some 5),.mov (.t 46),none,0,0⟩,
 ⟨(some 6),.mov (.t 47),none,0,0⟩] false)
 (.seq
 (.region [⟨(some 48),.mov (.t 6),none,0,0⟩,
 ⟨(some 49),.bin .neq (.t 48) (.c (.d (.sc (.int .i64 0)))),none,0,0⟩] false)
 (.cond (.t 49)
 (.seq
 (.region [⟨(some 2),.mov (.c (.d (.sc (.bool false)))),none,0,0⟩] false)
 .ret)
 .skip)))))
 (.region [⟨(some 50),.bin .add (.t 37) (.c (.d (.sc (.int .i64 1)))),none,0,0⟩,
 ⟨(some 37),.mov (.t 50),none,0,0⟩] false)))))))
 (.seq
 (.seq
 (.region [⟨(some 51),.fieldAddr 1 (.t 1),none,0,0⟩,
 ⟨(some 52),.load 1 false (.t 51),none,0,0⟩,
 ⟨(some 53),.len (.t 52),none,0,0⟩,
 ⟨(some 54),.mov (.c (.d (.sc (.int .i64 0)))),none,0,0⟩] false)
 (.block 2
 (.loop
 (.seq
 (.region [⟨(some 55),.bin .lss (.t 54) (.t 53),none,0,0⟩] false)
 (.seq
 (.cond (.t 55)
 .skip
 (.exit 2))
 (.seq
 (.block 3
 (.seq
 (.region [⟨(some 56),.indexAddr 1 (.t 52) (.t 54),none,0,0⟩,
 ⟨(some 57),.load 1 false (.t 56),none,0,0⟩,
 ⟨(some 8),.mov (.t 57),none,0,0⟩] false)
 (.seq
 (.region [⟨(some 58),.mov (.t 8),none,0,0⟩,
 ⟨(some 59),.lenS (.t 58),none,0,0⟩,
 ⟨(some 60),.bin .gtr (.t 59) (.c (.d (.sc (.int .i64 64)))),none,0,0⟩] false)
 (.cond (.t 60)
 (.seq
 (.region [⟨(some 2),.mov (.c (.d (.sc (.bool false)))),none,0,0⟩] false)
 .ret)
 .skip))))
 (.region [⟨(some 61),.bin .add (.t 54) (.c (.d (.sc (.int .i64 1)))),none,0,0⟩,
 ⟨(some 54),.mov (.t 61),none,0,0⟩] false)))))))
 (.seq
 (.region [⟨(some 62),.mkSet,none,0,0⟩,
 ⟨(some 9),.mov (.t 62),none,0,0⟩] false)
 (.seq
 (.seq
 (.region [⟨(some 63),.fieldAddr 2 (.t 1),none,0,0⟩,
 ⟨(some 64),.load 1 false (.t 63),none,0,0⟩,
 ⟨(some 65),.len (.t 64),none,0,0⟩,
 ⟨(some 66),.mov (.c (.d (.sc (.int .i64 0)))),none,0,0⟩] false)
 (.block 4
 (.loop
 (.seq
 (.region [⟨(some 67),.bin .lss (.t 66) (.t 65),none,0,0⟩] false)
 (.seq
 (.cond (.t 67)
 .skip
 (.exit 4))
 (.seq
 (.block 5
 (.seq
 (.region [⟨(some 68),.indexAddr 7 (.t 64) (.t 66),none,0,0⟩,
 ⟨(some 69),.load 7 true (.t 68),none,0,0⟩,
 ⟨(some 11),.alloc [(.d (.sc (.string ⟨#[]⟩))),(.d (.sc (.int .i64 0))),(.d (.sc (.int .i64 0))),(.own [] .full),(.own [] .full),(.own [] .full),(.own [] .full)],none,0,0⟩,
 ⟨none,.store 7 (.t 11) (.t 69),none,0,0⟩] false)
 (.seq
 (.seq
 (.region [⟨(some 70),.mov (.t 9),none,0,0⟩,
 ⟨(some 71),.fieldAddr 0 (.t 11),none,0,0⟩,
 ⟨(some 72),.load 1 false (.t 71),none,0,0⟩,
 ⟨(some 73),.hasK (.t 70) (.t 72),none,0,0⟩,
 ⟨(some 74),.mov (.t 73),none,0,0⟩,
 ⟨(some 75),.fieldAddr 0 (.t 1),(some (74,false)),0,0⟩,
 ⟨(some 76),.load 1 false (.t 75),(some (74,false)),0,0⟩,
 ⟨(some 77),.load 7 true (.t 11),(some (74,false)),0,0⟩,
 ⟨(some 78),.callF 53 [(.t 76),(.t 77)],(some (74,false)),0,0⟩,
 ⟨(some 79),.un .not (.t 78),(some (74,false)),0,0⟩,
 ⟨(some 80),.pick (.t 74) (.c (.d (.sc (.bool true)))) (.t 79),none,0,0⟩] false)
 (.cond (.t 80)
 (.seq
 (.region [⟨(some 2),.mov (.c (.d (.sc (.bool false)))),none,0,0⟩] false)
 .ret)
 .skip))
 (.region [⟨(some 81),.mov (.t 9),none,0,0⟩,
 ⟨(some 82),.fieldAddr 0 (.t 11),none,0,0⟩,
 ⟨(some 83),.load 1 false (.t 82),none,0,0⟩,
 ⟨none,.addK (.t 81) (.t 83),none,0,0⟩] false))))
 (.region [⟨(some 84),.bin .add (.t 66) (.c (.d (.sc (.int .i64 1)))),none,0,0⟩,
 ⟨(some 66),.mov (.t 84),none,0,0⟩] false)))))))
 (.seq
 (.region [⟨(some 2),.mov (.c (.d (.sc (.bool true)))),none,0,0⟩] false)
 .ret))))))),false⟩
def t31:AFn:=⟨2,53,[],
 (.seq
 (.region [⟨(some 6),.mov (.t 0),none,0,0⟩,
 ⟨(some 7),.mov (.t 1),none,0,0⟩,
 ⟨(some 8),.len (.t 7),none,0,0⟩,
 ⟨(some 9),.call 32 [(.t 6),(.t 8)],none,0,0⟩] false)
 (.seq
 (.region [⟨(some 10),.mov (.t 1),none,0,0⟩,
 ⟨(some 11),.len (.t 10),none,0,0⟩,
 ⟨(some 12),.mov (.c (.d (.sc (.int .i64 0)))),none,0,0⟩] false)
 (.block 0
 (.loop
 (.seq
 (.region [⟨(some 13),.bin .lss (.t 12) (.t 11),none,0,0⟩] false)
 (.seq
 (.cond (.t 13)
 .skip
 (.exit 0))
 (.seq
 (.block 1
 (.seq
 (.region [⟨(some 14),.indexAddr 4 (.t 10) (.t 12),none,0,0⟩,
 ⟨(some 15),.load 4 true (.t 14),none,0,0⟩,
 ⟨(some 5),.alloc [(.d (.sc (.int .u8 0))),(.d (.sc (.int .i64 0))),(.d (.sc (.int .i64 0))),(.own [] .full)],none,0,0⟩,
 ⟨none,.store 4 (.t 5) (.t 15),none,0,0⟩] false)
 (.seq
 (.region [⟨(some 16),.mov (.t 0),none,0,0⟩,
 ⟨(some 17),.mov (.t 0),none,0,0⟩,
 ⟨(some 18),.nilCheck (.t 17),none,2,0⟩,
 ⟨(some 19),.fieldAddr 0 (.t 18),none,6,0⟩,
 ⟨(some 20),.load 1 false (.t 19),none,14,0⟩,
 ⟨(some 21),.fieldAddr 0 (.t 5),none,0,0⟩,
 ⟨(some 22),.load 1 false (.t 21),none,32,0⟩,
 ⟨(some 23),.buildSlice 1 1 [(.sc (.int .u8 0))] [(0,(.t 22))],none,96,0⟩,
 ⟨(some 24),.append 1 1 (.t 20) (.t 23),none,254,0⟩,
 ⟨(some 25),.nilCheck (.t 16),none,511,0⟩,
 ⟨(some 26),.fieldAddr 0 (.t 25),none,1023,0⟩,
 ⟨none,.store 1 (.t 26) (.t 24),none,2047,0⟩] true)
 (.seq
 (.region [⟨(some 27),.fieldAddr 0 (.t 5),none,0,0⟩,
 ⟨(some 28),.load 1 false (.t 27),none,0,0⟩] false)
 (.block 2
 (.seq
 (.seq
 (.region [⟨(some 30),.bin .eql (.t 28) (.c (.d (.sc (.int .u8 4)))),none,0,0⟩,
 ⟨(some 29),.mov (.t 30),none,0,0⟩] false)
 (.cond (.t 29)
 .skip
 (.region [⟨(some 31),.bin .eql (.t 28) (.c (.d (.sc (.int .u8 7)))),none,0,0⟩,
 ⟨(some 29),.mov (.t 31),none,0,0⟩] false)))
 (.cond (.t 29)
 (.region [⟨(some 32),.mov (.t 0),none,0,0⟩,
 ⟨(some 33),.fieldAddr 1 (.t 5),none,0,0⟩,
 ⟨(some 34),.load 1 false (.t 33),none,0,0⟩,
 ⟨(some 35),.call 32 [(.t 32),(.t 34)],none,0,0⟩] false)
 (.seq
 (.region [⟨(some 37),.bin .eql (.t 28) (.c (.d (.sc (.int .u8 6)))),none,0,0⟩,
 ⟨(some 36),.mov (.t 37),none,0,0⟩] false)
 (.cond (.t 36)
 (.seq
 (.region [⟨(some 38),.mov (.t 0),none,0,0⟩,
 ⟨(some 39),.fieldAddr 1 (.t 5),none,0,0⟩,
 ⟨(some 40),.load 1 false (.t 39),none,0,0⟩,
 ⟨(some 41),.call 32 [(.t 38),(.t 40)],none,0,0⟩] false)
 (.region [⟨(some 42),.mov (.t 0),none,0,0⟩,
 ⟨(some 43),.fieldAddr 2 (.t 5),none,0,0⟩,
 ⟨(some 44),.load 1 false (.t 43),none,0,0⟩,
 ⟨(some 45),.call 32 [(.t 42),(.t 44)],none,0,0⟩] false))
 (.seq
 (.region [⟨(some 47),.bin .eql (.t 28) (.c (.d (.sc (.int .u8 5)))),none,0,0⟩,
 ⟨(some 46),.mov (.t 47),none,0,0⟩] false)
 (.cond (.t 46)
 (.region [⟨(some 48),.mov (.t 0),none,0,0⟩,
 ⟨(some 49),.fieldAddr 3 (.t 5),none,0,0⟩,
 ⟨(some 50),.load 1 false (.t 49),none,0,0⟩,
 ⟨(some 51),.call 54 [(.t 48),(.t 50)],none,0,0⟩] false)
 .skip)))))))))))
 (.region [⟨(some 52),.bin .add (.t 12) (.c (.d (.sc (.int .i64 1)))),none,0,0⟩,
 ⟨(some 12),.mov (.t 52),none,0,0⟩] false)))))))),true⟩
def t32:AFn:=⟨2,15,[],
 (.region [⟨(some 4),.mov (.t 0),none,0,0⟩,
 ⟨(some 5),.mov (.t 0),none,0,0⟩,
 ⟨(some 6),.nilCheck (.t 5),none,2,0⟩,
 ⟨(some 7),.fieldAddr 0 (.t 6),none,6,0⟩,
 ⟨(some 8),.load 1 false (.t 7),none,14,0⟩,
 ⟨(some 9),.mov (.t 1),none,0,0⟩,
 ⟨(some 10),.conv .u64 (.t 9),none,32,0⟩,
 ⟨(some 11),.call 55 [(.t 10)],none,96,0⟩,
 ⟨(some 12),.append 1 1 (.t 8) (.t 11),none,254,0⟩,
 ⟨(some 13),.nilCheck (.t 4),none,511,0⟩,
 ⟨(some 14),.fieldAddr 0 (.t 13),none,1023,0⟩,
 ⟨none,.store 1 (.t 14) (.t 12),none,2047,0⟩] true),true⟩
def t33:AFn:=⟨2,17,[],
 (.seq
 (.region [⟨(some 4),.mov (.t 0),none,0,0⟩,
 ⟨(some 5),.mov (.t 1),none,0,0⟩,
 ⟨(some 6),.lenS (.t 5),none,0,0⟩,
 ⟨(some 7),.call 32 [(.t 4),(.t 6)],none,0,0⟩] false)
 (.region [⟨(some 8),.mov (.t 0),none,0,0⟩,
 ⟨(some 9),.mov (.t 0),none,0,0⟩,
 ⟨(some 10),.nilCheck (.t 9),none,0,0⟩,
 ⟨(some 11),.fieldAddr 0 (.t 10),none,0,0⟩,
 ⟨(some 12),.load 1 false (.t 11),none,0,0⟩,
 ⟨(some 13),.mov (.t 1),none,0,0⟩,
 ⟨(some 14),.append 1 1 (.t 12) (.t 13),none,0,0⟩,
 ⟨(some 15),.nilCheck (.t 8),none,0,0⟩,
 ⟨(some 16),.fieldAddr 0 (.t 15),none,0,0⟩,
 ⟨none,.store 1 (.t 16) (.t 14),none,0,0⟩] false)),true⟩
def t34:AFn:=⟨2,97,[.t 4],
 (.seq
 (.region [⟨(some 3),.box (.t 1),none,0,0⟩,
 ⟨(some 4),.mov (.c (.d (.sc (.int .i64 0)))),none,0,0⟩] false)
 (.seq
 (.region [⟨(some 13),.mov (.t 0),none,0,0⟩,
 ⟨(some 14),.fieldAddr 0 (.t 3),none,0,0⟩,
 ⟨(some 15),.load 1 false (.t 14),none,0,0⟩,
 ⟨(some 16),.call 33 [(.t 13),(.t 15)],none,0,0⟩] false)
 (.seq
 (.region [⟨(some 17),.mov (.t 0),none,0,0⟩,
 ⟨(some 18),.fieldAddr 1 (.t 3),none,0,0⟩,
 ⟨(some 19),.load 1 false (.t 18),none,0,0⟩,
 ⟨(some 20),.call 32 [(.t 17),(.t 19)],none,0,0⟩] false)
 (.seq
 (.region [⟨(some 21),.mov (.t 0),none,0,0⟩,
 ⟨(some 22),.mov (.t 0),none,0,0⟩,
 ⟨(some 23),.nilCheck (.t 22),none,2,0⟩,
 ⟨(some 24),.fieldAddr 0 (.t 23),none,6,0⟩,
 ⟨(some 25),.load 1 false (.t 24),none,14,0⟩,
 ⟨(some 26),.fieldAddr 2 (.t 3),none,0,0⟩,
 ⟨(some 27),.load 1 false (.t 26),none,32,0⟩,
 ⟨(some 28),.call 56 [(.t 27)],none,96,0⟩,
 ⟨(some 29),.append 1 1 (.t 25) (.t 28),none,254,0⟩,
 ⟨(some 30),.nilCheck (.t 21),none,511,0⟩,
 ⟨(some 31),.fieldAddr 0 (.t 30),none,1023,0⟩,
 ⟨none,.store 1 (.t 31) (.t 29),none,2047,0⟩] true)
 (.seq
 (.region [⟨(some 32),.mov (.t 0),none,0,0⟩,
 ⟨(some 33),.fieldAddr 3 (.t 3),none,0,0⟩,
 ⟨(some 34),.load 1 false (.t 33),none,0,0⟩,
 ⟨(some 35),.call 54 [(.t 32),(.t 34)],none,0,0⟩] false)
 (.seq
 (.region [⟨(some 36),.mov (.t 0),none,0,0⟩,
 ⟨(some 37),.fieldAddr 4 (.t 3),none,0,0⟩,
 ⟨(some 38),.load 1 false (.t 37),none,0,0⟩,
 ⟨(some 39),.len (.t 38),none,0,0⟩,
 ⟨(some 40),.call 32 [(.t 36),(.t 39)],none,0,0⟩] false)
 (.seq
 (.seq
 (.region [⟨(some 41),.fieldAddr 4 (.t 3),none,0,0⟩,
 ⟨(some 42),.load 1 false (.t 41),none,0,0⟩,
 ⟨(some 43),.len (.t 42),none,0,0⟩,
 ⟨(some 44),.mov (.c (.d (.sc (.int .i64 0)))),none,0,0⟩] false)
 (.block 0
 (.loop
 (.seq
 (.region [⟨(some 45),.bin .lss (.t 44) (.t 43),none,0,0⟩] false)
 (.seq
 (.cond (.t 45)
 .skip
 (.exit 0))
 (.seq
 (.block 1
 (.seq
 (.region [⟨(some 46),.indexAddr 4 (.t 42) (.t 44),none,0,0⟩,
 ⟨(some 47),.load 4 true (.t 46),none,0,0⟩,
 ⟨(some 6),.alloc [(.d (.sc (.int .u8 0))),(.d (.sc (.int .i64 0))),(.d (.sc (.int .i64 0))),(.d (.sc (.int .i64 0)))],none,0,0⟩,
 ⟨none,.store 4 (.t 6) (.t 47),none,0,0⟩] false)
 (.seq
 (.region [⟨(some 49),.load 4 true (.t 6),none,0,0⟩,
 ⟨(some 50),.call 57 [(.t 49)],none,0,0⟩,
 ⟨(some 48),.mov (.t 50),none,0,0⟩,
 ⟨(some 51),.extract (.t 48) 0,none,0,0⟩,
 ⟨(some 52),.extract (.t 48) 1,none,0,0⟩,
 ⟨(some 7),.mov (.t 51),none,0,0⟩,
 ⟨(some 8),.mov (.t 52),none,0,0⟩] false)
 (.seq
 (.seq
 (.region [⟨(some 53),.mov (.t 8),none,0,0⟩,
 ⟨(some 54),.bin .neq (.t 53) (.c (.d (.sc (.int .i64 0)))),none,0,0⟩] false)
 (.cond (.t 54)
 (.seq
 (.region [⟨(some 55),.mov (.t 8),none,0,0⟩,
 ⟨(some 4),.mov (.t 55),none,0,0⟩] false)
 .ret)
 .skip))
 (.region [⟨(some 56),.mov (.t 0),none,0,0⟩,
 ⟨(some 57),.mov (.t 0),none,0,0⟩,
 ⟨(some 58),.nilCheck (.t 57),none,0,0⟩,
 ⟨(some 59),.fieldAddr 0 (.t 58),none,0,0⟩,
 ⟨(some 60),.load 1 false (.t 59),none,0,0⟩,
 ⟨(some 61),.mov (.t 7),none,0,0⟩,
 ⟨(some 62),.append 1 1 (.t 60) (.t 61),none,0,0⟩,
 ⟨(some 63),.nilCheck (.t 56),none,0,0⟩,
 ⟨(some 64),.fieldAddr 0 (.t 63),none,0,0⟩,
 ⟨none,.store 1 (.t 64) (.t 62),none,0,0⟩] false)))))
 (.region [⟨(some 65),.bin .add (.t 44) (.c (.d (.sc (.int .i64 1)))),none,0,0⟩,
 ⟨(some 44),.mov (.t 65),none,0,0⟩] false)))))))
 (.seq
 (.seq
 (.region [⟨(some 66),.fieldAddr 5 (.t 3),none,0,0⟩,
 ⟨(some 67),.load 1 false (.t 66),none,0,0⟩,
 ⟨(some 68),.fieldAddr 6 (.t 3),none,0,0⟩,
 ⟨(some 69),.load 1 false (.t 68),none,0,0⟩,
 ⟨(some 70),.buildSlice 1 2 [(.sl [])] [(0,(.t 67)),(1,(.t 69))],none,0,0⟩,
 ⟨(some 71),.len (.t 70),none,0,0⟩,
 ⟨(some 72),.mov (.c (.d (.sc (.int .i64 0)))),none,0,0⟩] false)
 (.block 2
 (.loop
 (.seq
 (.region [⟨(some 73),.bin .lss (.t 72) (.t 71),none,0,0⟩] false)
 (.seq
 (.cond (.t 73)
 .skip
 (.exit 2))
 (.seq
 (.block 3
 (.seq
 (.region [⟨(some 74),.indexAddr 1 (.t 70) (.t 72),none,0,0⟩,
 ⟨(some 75),.load 1 false (.t 74),none,0,0⟩,
 ⟨(some 10),.mov (.t 75),none,0,0⟩] false)
 (.seq
 (.region [⟨(some 77),.mov (.t 10),none,0,0⟩,
 ⟨(some 78),.fieldAddr 4 (.t 3),none,0,0⟩,
 ⟨(some 79),.load 1 false (.t 78),none,0,0⟩,
 ⟨(some 80),.len (.t 79),none,0,0⟩,
 ⟨(some 81),.call 58 [(.t 77),(.t 80)],none,0,0⟩,
 ⟨(some 76),.mov (.t 81),none,0,0⟩,
 ⟨(some 82),.extract (.t 76) 0,none,0,0⟩,
 ⟨(some 83),.extract (.t 76) 1,none,0,0⟩,
 ⟨(some 11),.mov (.t 82),none,0,0⟩,
 ⟨(some 12),.mov (.t 83),none,0,0⟩] false)
 (.seq
 (.seq
 (.region [⟨(some 84),.mov (.t 12),none,0,0⟩,
 ⟨(some 85),.bin .neq (.t 84) (.c (.d (.sc (.int .i64 0)))),none,0,0⟩] false)
 (.cond (.t 85)
 (.seq
 (.region [⟨(some 86),.mov (.t 12),none,0,0⟩,
 ⟨(some 4),.mov (.t 86),none,0,0⟩] false)
 .ret)
 .skip))
 (.region [⟨(some 87),.mov (.t 0),none,0,0⟩,
 ⟨(some 88),.mov (.t 0),none,0,0⟩,
 ⟨(some 89),.nilCheck (.t 88),none,0,0⟩,
 ⟨(some 90),.fieldAddr 0 (.t 89),none,0,0⟩,
 ⟨(some 91),.load 1 false (.t 90),none,0,0⟩,
 ⟨(some 92),.mov (.t 11),none,0,0⟩,
 ⟨(some 93),.append 1 1 (.t 91) (.t 92),none,0,0⟩,
 ⟨(some 94),.nilCheck (.t 87),none,0,0⟩,
 ⟨(some 95),.fieldAddr 0 (.t 94),none,0,0⟩,
 ⟨none,.store 1 (.t 95) (.t 93),none,0,0⟩] false)))))
 (.region [⟨(some 96),.bin .add (.t 72) (.c (.d (.sc (.int .i64 1)))),none,0,0⟩,
 ⟨(some 72),.mov (.t 96),none,0,0⟩] false)))))))
 (.seq
 (.region [⟨(some 4),.mov (.c (.d (.sc (.int .i64 0)))),none,0,0⟩] false)
 .ret))))))))),true⟩
def t38:AFn:=⟨2,68,[.t 4],
 (.seq
 (.region [⟨(some 4),.mov (.c (.d (.sc (.bool false)))),none,0,0⟩] false)
 (.seq
 (.seq
 (.region [⟨(some 6),.mov (.t 0),none,0,0⟩,
 ⟨(some 7),.len (.t 6),none,0,0⟩,
 ⟨(some 8),.mov (.t 1),none,0,0⟩,
 ⟨(some 9),.len (.t 8),none,0,0⟩,
 ⟨(some 10),.bin .neq (.t 7) (.t 9),none,0,0⟩] false)
 (.cond (.t 10)
 (.seq
 (.region [⟨(some 4),.mov (.c (.d (.sc (.bool false)))),none,0,0⟩] false)
 .ret)
 .skip))
 (.seq
 (.seq
 (.region [⟨(some 5),.mov (.c (.d (.sc (.int .i64 0)))),none,0,0⟩] false)
 (.block 0
 (.loop
 (.seq
 (.seq
 (.region [⟨(some 11),.mov (.t 5),none,0,0⟩,
 ⟨(some 12),.mov (.t 0),none,0,0⟩,
 ⟨(some 13),.len (.t 12),none,0,0⟩,
 ⟨(some 14),.bin .lss (.t 11) (.t 13),none,0,0⟩] false)
 (.cond (.t 14)
 .skip
 (.exit 0)))
 (.seq
 (.block 1
 (.seq
 (.region [⟨(some 17),.mov (.t 0),none,0,0⟩,
 ⟨(some 18),.mov (.t 5),none,0,0⟩,
 ⟨(some 19),.indexAddr 4 (.t 17) (.t 18),none,3,0⟩,
 ⟨(some 20),.fieldAddr 0 (.t 19),none,7,0⟩,
 ⟨(some 21),.load 1 false (.t 20),none,15,0⟩,
 ⟨(some 22),.mov (.t 1),none,0,0⟩,
 ⟨(some 23),.mov (.t 5),none,0,0⟩,
 ⟨(some 24),.indexAddr 4 (.t 22) (.t 23),none,96,0⟩,
 ⟨(some 25),.fieldAddr 0 (.t 24),none,224,0⟩,
 ⟨(some 26),.load 1 false (.t 25),none,480,0⟩,
 ⟨(some 27),.bin .neq (.t 21) (.t 26),none,1023,0⟩,
 ⟨(some 28),.mov (.t 27),none,2047,0⟩,
 ⟨(some 29),.mov (.t 0),(some (28,false)),4095,0⟩,
 ⟨(some 30),.mov (.t 5),(some (28,false)),4095,0⟩,
 ⟨(some 31),.indexAddr 4 (.t 29) (.t 30),(some (28,false)),16383,0⟩,
 ⟨(some 32),.fieldAddr 1 (.t 31),(some (28,false)),32767,0⟩,
 ⟨(some 33),.load 1 false (.t 32),(some (28,false)),65535,0⟩,
 ⟨(some 34),.mov (.t 1),(some (28,false)),4095,0⟩,
 ⟨(some 35),.mov (.t 5),(some (28,false)),4095,0⟩,
 ⟨(some 36),.indexAddr 4 (.t 34) (.t 35),(some (28,false)),397311,0⟩,
 ⟨(some 37),.fieldAddr 1 (.t 36),(some (28,false)),921599,0⟩,
 ⟨(some 38),.load 1 false (.t 37),(some (28,false)),1970175,0⟩,
 ⟨(some 39),.bin .neq (.t 33) (.t 38),(some (28,false)),4194303,0⟩,
 ⟨(some 40),.pick (.t 28) (.c (.d (.sc (.bool true)))) (.t 39),none,8388607,0⟩,
 ⟨(some 41),.mov (.t 40),none,16777215,0⟩,
 ⟨(some 42),.mov (.t 0),(some (41,false)),33554431,0⟩,
 ⟨(some 43),.mov (.t 5),(some (41,false)),33554431,0⟩,
 ⟨(some 44),.indexAddr 4 (.t 42) (.t 43),(some (41,false)),134217727,0⟩,
 ⟨(some 45),.fieldAddr 2 (.t 44),(some (41,false)),268435455,0⟩,
 ⟨(some 46),.load 1 false (.t 45),(some (41,false)),536870911,0⟩,
 ⟨(some 47),.mov (.t 1),(some (41,false)),33554431,0⟩,
 ⟨(some 48),.mov (.t 5),(some (41,false)),33554431,0⟩,
 ⟨(some 49),.indexAddr 4 (.t 47) (.t 48),(some (41,false)),3254779903,0⟩,
 ⟨(some 50),.fieldAddr 2 (.t 49),(some (41,false)),7549747199,0⟩,
 ⟨(some 51),.load 1 false (.t 50),(some (41,false)),16139681791,0⟩,
 ⟨(some 52),.bin .neq (.t 46) (.t 51),(some (41,false)),34359738367,0⟩,
 ⟨(some 53),.pick (.t 41) (.c (.d (.sc (.bool true)))) (.t 52),none,68719476735,0⟩,
 ⟨(some 54),.mov (.t 53),none,137438953471,0⟩,
 ⟨(some 55),.mov (.t 0),(some (54,false)),274877906943,0⟩,
 ⟨(some 56),.mov (.t 5),(some (54,false)),274877906943,0⟩,
 ⟨(some 57),.indexAddr 4 (.t 55) (.t 56),(some (54,false)),1099511627775,0⟩,
 ⟨(some 58),.fieldAddr 3 (.t 57),(some (54,false)),2199023255551,0⟩,
 ⟨(some 59),.load 1 false (.t 58),(some (54,false)),4398046511103,0⟩,
 ⟨(some 60),.mov (.t 1),(some (54,false)),274877906943,0⟩,
 ⟨(some 61),.mov (.t 5),(some (54,false)),274877906943,0⟩,
 ⟨(some 62),.indexAddr 4 (.t 60) (.t 61),(some (54,false)),26663156973567,0⟩,
 ⟨(some 63),.fieldAddr 3 (.t 62),(some (54,false)),61847529062399,0⟩,
 ⟨(some 64),.load 1 false (.t 63),(some (54,false)),132216273240063,0⟩,
 ⟨(some 65),.callF 62 [(.t 59),(.t 64)],(some (54,false)),281474976710655,0⟩,
 ⟨(some 66),.un .not (.t 65),(some (54,false)),562949953421311,0⟩,
 ⟨(some 67),.pick (.t 54) (.c (.d (.sc (.bool true)))) (.t 66),none,1125899906842623,0⟩] true)
 (.cond (.t 67)
 (.seq
 (.region [⟨(some 4),.mov (.c (.d (.sc (.bool false)))),none,0,0⟩] false)
 .ret)
 .skip)))
 (.region [⟨(some 15),.mov (.t 5),none,0,0⟩,
 ⟨(some 16),.bin .add (.t 15) (.c (.d (.sc (.int .i64 1)))),none,0,0⟩,
 ⟨(some 5),.mov (.t 16),none,0,0⟩] false))))))
 (.seq
 (.region [⟨(some 4),.mov (.c (.d (.sc (.bool true)))),none,0,0⟩] false)
 .ret)))),false⟩
def t39:AFn:=⟨2,52,[.t 4],
 (.seq
 (.region [⟨(some 2),.box (.t 0),none,0,0⟩,
 ⟨(some 3),.box (.t 1),none,0,0⟩,
 ⟨(some 4),.mov (.c (.d (.sc (.bool false)))),none,0,0⟩] false)
 (.seq
 (.region [⟨(some 5),.fieldAddr 0 (.t 2),none,0,0⟩,
 ⟨(some 6),.load 1 false (.t 5),none,0,0⟩,
 ⟨(some 7),.fieldAddr 0 (.t 3),none,0,0⟩,
 ⟨(some 8),.load 1 false (.t 7),none,0,0⟩,
 ⟨(some 9),.bin .eql (.t 6) (.t 8),none,0,0⟩,
 ⟨(some 10),.mov (.t 9),none,0,0⟩,
 ⟨(some 11),.fieldAddr 1 (.t 2),(some (10,true)),0,0⟩,
 ⟨(some 12),.load 1 false (.t 11),(some (10,true)),0,0⟩,
 ⟨(some 13),.fieldAddr 1 (.t 3),(some (10,true)),0,0⟩,
 ⟨(some 14),.load 1 false (.t 13),(some (10,true)),0,0⟩,
 ⟨(some 15),.bin .eql (.t 12) (.t 14),(some (10,true)),0,0⟩,
 ⟨(some 16),.pick (.t 10) (.t 15) (.c (.d (.sc (.bool false)))),none,0,0⟩,
 ⟨(some 17),.mov (.t 16),none,0,0⟩,
 ⟨(some 18),.fieldAddr 2 (.t 2),(some (17,true)),0,0⟩,
 ⟨(some 19),.load 1 false (.t 18),(some (17,true)),0,0⟩,
 ⟨(some 20),.fieldAddr 2 (.t 3),(some (17,true)),0,0⟩,
 ⟨(some 21),.load 1 false (.t 20),(some (17,true)),0,0⟩,
 ⟨(some 22),.bin .eql (.t 19) (.t 21),(some (17,true)),0,0⟩,
 ⟨(some 23),.pick (.t 17) (.t 22) (.c (.d (.sc (.bool false)))),none,0,0⟩,
 ⟨(some 24),.mov (.t 23),none,0,0⟩,
 ⟨(some 25),.fieldAddr 3 (.t 2),(some (24,true)),0,0⟩,
 ⟨(some 26),.load 1 false (.t 25),(some (24,true)),0,0⟩,
 ⟨(some 27),.fieldAddr 3 (.t 3),(some (24,true)),0,0⟩,
 ⟨(some 28),.load 1 false (.t 27),(some (24,true)),0,0⟩,
 ⟨(some 29),.callF 62 [(.t 26),(.t 28)],(some (24,true)),0,0⟩,
 ⟨(some 30),.pick (.t 24) (.t 29) (.c (.d (.sc (.bool false)))),none,0,0⟩,
 ⟨(some 31),.mov (.t 30),none,0,0⟩,
 ⟨(some 32),.fieldAddr 4 (.t 2),(some (31,true)),0,0⟩,
 ⟨(some 33),.load 1 false (.t 32),(some (31,true)),0,0⟩,
 ⟨(some 34),.fieldAddr 4 (.t 3),(some (31,true)),0,0⟩,
 ⟨(some 35),.load 1 false (.t 34),(some (31,true)),0,0⟩,
 ⟨(some 36),.callF 63 [(.t 33),(.t 35)],(some (31,true)),0,0⟩,
 ⟨(some 37),.pick (.t 31) (.t 36) (.c (.d (.sc (.bool false)))),none,0,0⟩,
 ⟨(some 38),.mov (.t 37),none,0,0⟩,
 ⟨(some 39),.fieldAddr 5 (.t 2),(some (38,true)),0,0⟩,
 ⟨(some 40),.load 1 false (.t 39),(some (38,true)),0,0⟩,
 ⟨(some 41),.fieldAddr 5 (.t 3),(some (38,true)),0,0⟩,
 ⟨(some 42),.load 1 false (.t 41),(some (38,true)),0,0⟩,
 ⟨(some 43),.callF 64 [(.t 40),(.t 42)],(some (38,true)),0,0⟩,
 ⟨(some 44),.pick (.t 38) (.t 43) (.c (.d (.sc (.bool false)))),none,0,0⟩,
 ⟨(some 45),.mov (.t 44),none,0,0⟩,
 ⟨(some 46),.fieldAddr 6 (.t 2),(some (45,true)),0,0⟩,
 ⟨(some 47),.load 1 false (.t 46),(some (45,true)),0,0⟩,
 ⟨(some 48),.fieldAddr 6 (.t 3),(some (45,true)),0,0⟩,
 ⟨(some 49),.load 1 false (.t 48),(some (45,true)),0,0⟩,
 ⟨(some 50),.callF 64 [(.t 47),(.t 49)],(some (45,true)),0,0⟩,
 ⟨(some 51),.pick (.t 45) (.t 50) (.c (.d (.sc (.bool false)))),none,0,0⟩,
 ⟨(some 4),.mov (.t 51),none,0,0⟩] false)
 .ret)),false⟩
def t47:AFn:=⟨2,30,[.t 4],
 (.seq
 (.region [⟨(some 4),.mov (.c (.d (.sc (.int .i64 0)))),none,0,0⟩] false)
 (.seq
 (.seq
 (.region [⟨(some 6),.mov (.t 0),none,0,0⟩,
 ⟨(some 7),.nilCheck (.t 6),none,0,0⟩,
 ⟨(some 8),.fieldAddr 2 (.t 7),none,0,0⟩,
 ⟨(some 9),.load 1 false (.t 8),none,0,0⟩,
 ⟨(some 10),.bin .neq (.t 9) (.c (.d (.sc (.int .i64 0)))),none,0,0⟩] false)
 (.cond (.t 10)
 (.seq
 (.region [⟨(some 4),.mov (.c (.d (.sc (.int .i64 0)))),none,0,0⟩] false)
 .ret)
 .skip))
 (.seq
 (.region [⟨(some 5),.mov (.c (.d (.sc (.int .u64 0)))),none,0,0⟩] false)
 (.seq
 (.region [⟨(some 12),.mov (.t 0),none,0,0⟩,
 ⟨(some 13),.mov (.t 0),none,0,0⟩,
 ⟨(some 14),.mov (.t 0),none,0,0⟩,
 ⟨(some 15),.nilCheck (.t 14),none,0,0⟩,
 ⟨(some 16),.fieldAddr 0 (.t 15),none,0,0⟩,
 ⟨(some 17),.load 2 true (.t 16),none,0,0⟩,
 ⟨(some 18),.mov (.t 1),none,0,0⟩,
 ⟨(some 19),.conv .u64 (.t 18),none,0,0⟩,
 ⟨(some 20),.call 68 [(.t 17),(.t 19)],none,0,0⟩,
 ⟨(some 11),.mov (.t 20),none,0,0⟩,
 ⟨(some 21),.extract (.t 11) 0,none,0,0⟩,
 ⟨(some 22),.extract (.t 11) 1,none,0,0⟩,
 ⟨(some 23),.extract (.t 11) 2,none,0,0⟩,
 ⟨(some 24),.nilCheck (.t 12),none,0,0⟩,
 ⟨(some 25),.fieldAddr 0 (.t 24),none,0,0⟩,
 ⟨none,.store 2 (.t 25) (.t 21),none,0,0⟩,
 ⟨(some 5),.mov (.t 22),none,0,0⟩,
 ⟨(some 26),.nilCheck (.t 13),none,0,0⟩,
 ⟨(some 27),.fieldAddr 2 (.t 26),none,0,0⟩,
 ⟨none,.store 1 (.t 27) (.t 23),none,0,0⟩] false)
 (.seq
 (.region [⟨(some 28),.mov (.t 5),none,0,0⟩,
 ⟨(some 29),.conv .i64 (.t 28),none,0,0⟩,
 ⟨(some 4),.mov (.t 29),none,0,0⟩] false)
 .ret))))),false⟩
def t48:AFn:=⟨1,50,[.cell 2 4 true],
 (.seq
 (.region [⟨(some 2),.alloc [(.d (.sc (.int .u8 0))),(.d (.sc (.int .i64 0))),(.d (.sc (.int .i64 0))),(.own [] .full)],none,0,0⟩] false)
 (.seq
 (.region [⟨(some 3),.alloc [(.d (.sc (.int .u8 0))),(.d (.sc (.int .i64 0))),(.d (.sc (.int .i64 0))),(.own [] .full)],none,0,0⟩] false)
 (.seq
 (.seq
 (.region [⟨(some 5),.mov (.t 0),none,0,0⟩,
 ⟨(some 6),.nilCheck (.t 5),none,0,0⟩,
 ⟨(some 7),.fieldAddr 2 (.t 6),none,0,0⟩,
 ⟨(some 8),.load 1 false (.t 7),none,0,0⟩,
 ⟨(some 9),.bin .eql (.t 8) (.c (.d (.sc (.int .i64 0)))),none,0,0⟩] false)
 (.cond (.t 9)
 (.seq
 (.region [⟨(some 4),.mov (.c (.d (.sc (.int .u64 0)))),none,0,0⟩] false)
 (.seq
 (.region [⟨(some 11),.mov (.t 0),none,0,0⟩,
 ⟨(some 12),.mov (.t 0),none,0,0⟩,
 ⟨(some 13),.mov (.t 0),none,0,0⟩,
 ⟨(some 14),.nilCheck (.t 13),none,0,0⟩,
 ⟨(some 15),.fieldAddr 0 (.t 14),none,0,0⟩,
 ⟨(some 16),.load 2 true (.t 15),none,0,0⟩,
 ⟨(some 17),.call 69 [(.t 16),(.c (.d (.sc (.int .i64 1))))],none,0,0⟩,
 ⟨(some 10),.mov (.t 17),none,0,0⟩,
 ⟨(some 18),.extract (.t 10) 0,none,0,0⟩,
 ⟨(some 19),.extract (.t 10) 1,none,0,0⟩,
 ⟨(some 20),.extract (.t 10) 2,none,0,0⟩,
 ⟨(some 21),.nilCheck (.t 11),none,0,0⟩,
 ⟨(some 22),.fieldAddr 0 (.t 21),none,0,0⟩,
 ⟨none,.store 2 (.t 22) (.t 18),none,0,0⟩,
 ⟨(some 4),.mov (.t 19),none,0,0⟩,
 ⟨(some 23),.nilCheck (.t 12),none,0,0⟩,
 ⟨(some 24),.fieldAddr 2 (.t 23),none,0,0⟩,
 ⟨none,.store 1 (.t 24) (.t 20),none,0,0⟩] false)
 (.region [⟨(some 25),.mov (.t 4),none,0,0⟩,
 ⟨(some 26),.conv .u8 (.t 25),none,0,0⟩,
 ⟨(some 27),.fieldAddr 0 (.t 3),none,0,0⟩,
 ⟨none,.store 1 (.t 27) (.t 26),none,0,0⟩] false)))
 .skip))
 (.seq
 (.seq
 (.region [⟨(some 28),.fieldAddr 0 (.t 3),none,0,0⟩,
 ⟨(some 29),.load 1 false (.t 28),none,0,0⟩] false)
 (.block 0
 (.seq
 (.seq
 (.region [⟨(some 31),.bin .eql (.t 29) (.c (.d (.sc (.int .u8 4)))),none,0,0⟩,
 ⟨(some 30),.mov (.t 31),none,0,0⟩] false)
 (.cond (.t 30)
 .skip
 (.region [⟨(some 32),.bin .eql (.t 29) (.c (.d (.sc (.int .u8 7)))),none,0,0⟩,
 ⟨(some 30),.mov (.t 32),none,0,0⟩] false)))
 (.cond (.t 30)
 (.region [⟨(some 33),.mov (.t 0),none,0,0⟩,
 ⟨(some 34),.call 47 [(.t 33),(.c (.d (.sc (.int .i64 32))))],none,0,0⟩,
 ⟨(some 35),.fieldAddr 1 (.t 3),none,0,0⟩,
 ⟨none,.store 1 (.t 35) (.t 34),none,0,0⟩] false)
 (.seq
 (.region [⟨(some 37),.bin .eql (.t 29) (.c (.d (.sc (.int .u8 6)))),none,0,0⟩,
 ⟨(some 36),.mov (.t 37),none,0,0⟩] false)
 (.cond (.t 36)
 (.seq
 (.region [⟨(some 38),.mov (.t 0),none,0,0⟩,
 ⟨(some 39),.call 47 [(.t 38),(.c (.d (.sc (.int .i64 32))))],none,0,0⟩,
 ⟨(some 40),.fieldAddr 1 (.t 3),none,0,0⟩,
 ⟨none,.store 1 (.t 40) (.t 39),none,0,0⟩] false)
 (.region [⟨(some 41),.mov (.t 0),none,0,0⟩,
 ⟨(some 42),.call 47 [(.t 41),(.c (.d (.sc (.int .i64 16))))],none,0,0⟩,
 ⟨(some 43),.fieldAddr 2 (.t 3),none,0,0⟩,
 ⟨none,.store 1 (.t 43) (.t 42),none,0,0⟩] false))
 (.seq
 (.region [⟨(some 45),.bin .eql (.t 29) (.c (.d (.sc (.int .u8 5)))),none,0,0⟩,
 ⟨(some 44),.mov (.t 45),none,0,0⟩] false)
 (.cond (.t 44)
 (.region [⟨(some 46),.mov (.t 0),none,0,0⟩,
 ⟨(some 47),.call 70 [(.t 46),(.c (.d (.sc (.int .i64 8))))],none,0,0⟩,
 ⟨(some 48),.fieldAddr 3 (.t 3),none,0,0⟩,
 ⟨none,.store 1 (.t 48) (.t 47),none,0,0⟩] false)
 .skip))))))))
 (.seq
 (.region [⟨(some 49),.load 4 true (.t 3),none,0,0⟩,
 ⟨none,.store 4 (.t 2) (.t 49),none,0,0⟩] false)
 .ret))))),false⟩
def t49:AFn:=⟨2,28,[.t 4],
 (.seq
 (.region [⟨(some 4),.mov (.c (.d (.sc (.string ⟨#[]⟩)))),none,0,0⟩] false)
 (.seq
 (.seq
 (.region [⟨(some 6),.mov (.t 0),none,0,0⟩,
 ⟨(some 7),.nilCheck (.t 6),none,0,0⟩,
 ⟨(some 8),.fieldAddr 2 (.t 7),none,0,0⟩,
 ⟨(some 9),.load 1 false (.t 8),none,0,0⟩,
 ⟨(some 10),.bin .neq (.t 9) (.c (.d (.sc (.int .i64 0)))),none,0,0⟩] false)
 (.cond (.t 10)
 (.seq
 (.region [⟨(some 4),.mov (.c (.d (.sc (.string ⟨#[]⟩)))),none,0,0⟩] false)
 .ret)
 .skip))
 (.seq
 (.region [⟨(some 5),.mov (.c (.d (.sc (.string ⟨#[]⟩)))),none,0,0⟩] false)
 (.seq
 (.region [⟨(some 12),.mov (.t 0),none,0,0⟩,
 ⟨(some 13),.mov (.t 0),none,0,0⟩,
 ⟨(some 14),.mov (.t 0),none,0,0⟩,
 ⟨(some 15),.nilCheck (.t 14),none,0,0⟩,
 ⟨(some 16),.fieldAddr 0 (.t 15),none,0,0⟩,
 ⟨(some 17),.load 2 true (.t 16),none,0,0⟩,
 ⟨(some 18),.mov (.t 1),none,0,0⟩,
 ⟨(some 19),.call 71 [(.t 17),(.t 18)],none,0,0⟩,
 ⟨(some 11),.mov (.t 19),none,0,0⟩,
 ⟨(some 20),.extract (.t 11) 0,none,0,0⟩,
 ⟨(some 21),.extract (.t 11) 1,none,0,0⟩,
 ⟨(some 22),.extract (.t 11) 2,none,0,0⟩,
 ⟨(some 23),.nilCheck (.t 12),none,0,0⟩,
 ⟨(some 24),.fieldAddr 0 (.t 23),none,0,0⟩,
 ⟨none,.store 2 (.t 24) (.t 20),none,0,0⟩,
 ⟨(some 5),.mov (.t 21),none,0,0⟩,
 ⟨(some 25),.nilCheck (.t 13),none,0,0⟩,
 ⟨(some 26),.fieldAddr 2 (.t 25),none,0,0⟩,
 ⟨none,.store 1 (.t 26) (.t 22),none,0,0⟩] false)
 (.seq
 (.region [⟨(some 27),.mov (.t 5),none,0,0⟩,
 ⟨(some 4),.mov (.t 27),none,0,0⟩] false)
 .ret))))),false⟩
def t50:AFn:=⟨1,80,[.cell 2 7 true],
 (.seq
 (.region [⟨(some 2),.alloc [(.d (.sc (.string ⟨#[]⟩))),(.d (.sc (.int .i64 0))),(.d (.sc (.int .i64 0))),(.own [] .full),(.own [] .full),(.own [] .full),(.own [] .full)],none,0,0⟩] false)
 (.seq
 (.region [⟨(some 6),.mov (.t 0),none,0,0⟩,
 ⟨(some 7),.call 49 [(.t 6),(.c (.d (.sc (.int .i64 16))))],none,0,0⟩,
 ⟨(some 8),.mov (.t 0),none,0,0⟩,
 ⟨(some 9),.call 47 [(.t 8),(.c (.d (.sc (.int .i64 16))))],none,0,0⟩,
 ⟨(some 10),.build [(.d (.sc (.string ⟨#[]⟩))),(.d (.sc (.int .i64 0))),(.d (.sc (.int .i64 0))),(.own [] .full),(.own [] .full),(.own [] .full),(.own [] .full)] [(0,1,(.t 7)),(1,1,(.t 9))],none,0,0⟩,
 ⟨(some 3),.alloc [(.d (.sc (.string ⟨#[]⟩))),(.d (.sc (.int .i64 0))),(.d (.sc (.int .i64 0))),(.own [] .full),(.own [] .full),(.own [] .full),(.own [] .full)],none,0,0⟩,
 ⟨none,.store 7 (.t 3) (.t 10),none,0,0⟩] false)
 (.seq
 (.seq
 (.region [⟨(some 11),.mov (.t 0),none,0,0⟩,
 ⟨(some 12),.nilCheck (.t 11),none,0,0⟩,
 ⟨(some 13),.fieldAddr 2 (.t 12),none,0,0⟩,
 ⟨(some 14),.load 1 false (.t 13),none,0,0⟩,
 ⟨(some 15),.bin .eql (.t 14) (.c (.d (.sc (.int .i64 0)))),none,0,0⟩] false)
 (.cond (.t 15)
 (.seq
 (.region [⟨(some 4),.mov (.c (.d (.sc (.int .i64 0)))),none,0,0⟩] false)
 (.seq
 (.region [⟨(some 17),.mov (.t 0),none,0,0⟩,
 ⟨(some 18),.mov (.t 0),none,0,0⟩,
 ⟨(some 19),.mov (.t 0),none,0,0⟩,
 ⟨(some 20),.nilCheck (.t 19),none,0,0⟩,
 ⟨(some 21),.fieldAddr 0 (.t 20),none,0,0⟩,
 ⟨(some 22),.load 2 true (.t 21),none,0,0⟩,
 ⟨(some 23),.call 72 [(.t 22)],none,0,0⟩,
 ⟨(some 16),.mov (.t 23),none,0,0⟩,
 ⟨(some 24),.extract (.t 16) 0,none,0,0⟩,
 ⟨(some 25),.extract (.t 16) 1,none,0,0⟩,
 ⟨(some 26),.extract (.t 16) 2,none,0,0⟩,
 ⟨(some 27),.nilCheck (.t 17),none,0,0⟩,
 ⟨(some 28),.fieldAddr 0 (.t 27),none,0,0⟩,
 ⟨none,.store 2 (.t 28) (.t 24),none,0,0⟩,
 ⟨(some 4),.mov (.t 25),none,0,0⟩,
 ⟨(some 29),.nilCheck (.t 18),none,0,0⟩,
 ⟨(some 30),.fieldAddr 2 (.t 29),none,0,0⟩,
 ⟨none,.store 1 (.t 30) (.t 26),none,0,0⟩] false)
 (.region [⟨(some 31),.mov (.t 4),none,0,0⟩,
 ⟨(some 32),.fieldAddr 2 (.t 3),none,0,0⟩,
 ⟨none,.store 1 (.t 32) (.t 31),none,0,0⟩] false)))
 .skip))
 (.seq
 (.region [⟨(some 33),.mov (.t 0),none,0,0⟩,
 ⟨(some 34),.call 70 [(.t 33),(.c (.d (.sc (.int .i64 16))))],none,0,0⟩,
 ⟨(some 35),.fieldAddr 3 (.t 3),none,0,0⟩,
 ⟨none,.store 1 (.t 35) (.t 34),none,0,0⟩] false)
 (.seq
 (.seq
 (.region [⟨(some 36),.mov (.t 0),none,0,0⟩,
 ⟨(some 37),.call 47 [(.t 36),(.c (.d (.sc (.int .i64 200))))],none,0,0⟩,
 ⟨(some 38),.mov (.c (.d (.sc (.int .i64 0)))),none,0,0⟩] false)
 (.block 0
 (.loop
 (.seq
 (.region [⟨(some 39),.bin .lss (.t 38) (.t 37),none,0,0⟩] false)
 (.seq
 (.cond (.t 39)
 .skip
 (.exit 0))
 (.seq
 (.block 1
 (.seq
 (.seq
 (.region [⟨(some 40),.mov (.t 0),none,0,0⟩,
 ⟨(some 41),.nilCheck (.t 40),none,0,0⟩,
 ⟨(some 42),.fieldAddr 2 (.t 41),none,0,0⟩,
 ⟨(some 43),.load 1 false (.t 42),none,0,0⟩,
 ⟨(some 44),.bin .neq (.t 43) (.c (.d (.sc (.int .i64 0)))),none,0,0⟩] false)
 (.cond (.t 44)
 (.exit 0)
 .skip))
 (.seq
 (.region [⟨(some 5),.alloc [(.d (.sc (.int .u8 0))),(.d (.sc (.int .i64 0))),(.d (.sc (.int .i64 0))),(.d (.sc (.int .i64 0)))],none,0,0⟩] false)
 (.seq
 (.region [⟨(some 46),.mov (.t 0),none,0,0⟩,
 ⟨(some 47),.mov (.t 0),none,0,0⟩,
 ⟨(some 48),.mov (.t 0),none,0,0⟩,
 ⟨(some 49),.nilCheck (.t 48),none,0,0⟩,
 ⟨(some 50),.fieldAddr 0 (.t 49),none,0,0⟩,
 ⟨(some 51),.load 2 true (.t 50),none,0,0⟩,
 ⟨(some 52),.call 73 [(.t 51)],none,0,0⟩,
 ⟨(some 45),.mov (.t 52),none,0,0⟩,
 ⟨(some 53),.extract (.t 45) 0,none,0,0⟩,
 ⟨(some 54),.extract (.t 45) 1,none,0,0⟩,
 ⟨(some 55),.extract (.t 45) 2,none,0,0⟩,
 ⟨(some 56),.nilCheck (.t 46),none,0,0⟩,
 ⟨(some 57),.fieldAddr 0 (.t 56),none,0,0⟩,
 ⟨none,.store 2 (.t 57) (.t 53),none,0,0⟩,
 ⟨none,.store 4 (.t 5) (.t 54),none,0,0⟩,
 ⟨(some 58),.nilCheck (.t 47),none,0,0⟩,
 ⟨(some 59),.fieldAddr 2 (.t 58),none,0,0⟩,
 ⟨none,.store 1 (.t 59) (.t 55),none,0,0⟩] false)
 (.region [⟨(some 60),.fieldAddr 4 (.t 3),none,0,0⟩,
 ⟨(some 61),.load 1 false (.t 60),none,0,0⟩,
 ⟨(some 62),.load 4 true (.t 5),none,0,0⟩,
 ⟨(some 63),.buildSlice 4 1 [(.sc (.int .u8 0)),(.sc (.int .i64 0)),(.sc (.int .i64 0)),(.sc (.int .i64 0))] [(0,(.t 62))],none,0,0⟩,
 ⟨(some 64),.append 4 32 (.t 61) (.t 63),none,0,0⟩,
 ⟨(some 65),.fieldAddr 4 (.t 3),none,0,0⟩,
 ⟨none,.store 1 (.t 65) (.t 64),none,0,0⟩] false)))))
 (.region [⟨(some 66),.bin .add (.t 38) (.c (.d (.sc (.int .i64 1)))),none,0,0⟩,
 ⟨(some 38),.mov (.t 66),none,0,0⟩] false)))))))
 (.seq
 (.region [⟨(some 67),.mov (.t 0),none,0,0⟩,
 ⟨(some 68),.fieldAddr 4 (.t 3),none,0,0⟩,
 ⟨(some 69),.load 1 false (.t 68),none,0,0⟩,
 ⟨(some 70),.len (.t 69),none,0,0⟩,
 ⟨(some 71),.call 74 [(.t 67),(.t 70)],none,0,0⟩,
 ⟨(some 72),.fieldAddr 5 (.t 3),none,0,0⟩,
 ⟨none,.store 1 (.t 72) (.t 71),none,0,0⟩] false)
 (.seq
 (.region [⟨(some 73),.mov (.t 0),none,0,0⟩,
 ⟨(some 74),.fieldAddr 4 (.t 3),none,0,0⟩,
 ⟨(some 75),.load 1 false (.t 74),none,0,0⟩,
 ⟨(some 76),.len (.t 75),none,0,0⟩,
 ⟨(some 77),.call 74 [(.t 73),(.t 76)],none,0,0⟩,
 ⟨(some 78),.fieldAddr 6 (.t 3),none,0,0⟩,
 ⟨none,.store 1 (.t 78) (.t 77),none,0,0⟩] false)
 (.seq
 (.region [⟨(some 79),.load 7 true (.t 3),none,0,0⟩,
 ⟨none,.store 7 (.t 2) (.t 79),none,0,0⟩] false)
 .ret)))))))),false⟩
def t51:AFn:=⟨1,29,[.t 2],
 (.seq
 (.region [⟨(some 2),.mov (.c (.d (.sc (.int .i64 0)))),none,0,0⟩] false)
 (.seq
 (.seq
 (.region [⟨(some 6),.mov (.t 0),none,0,0⟩,
 ⟨(some 7),.len (.t 6),none,0,0⟩,
 ⟨(some 8),.bin .gtr (.t 7) (.c (.d (.sc (.int .i64 32)))),none,0,0⟩] false)
 (.cond (.t 8)
 (.seq
 (.region [⟨(some 2),.mov (.c (.d (.sc (.int .i64 8)))),none,0,0⟩] false)
 .ret)
 .skip))
 (.seq
 (.seq
 (.region [⟨(some 9),.mov (.t 0),none,0,0⟩,
 ⟨(some 10),.len (.t 9),none,0,0⟩,
 ⟨(some 11),.mov (.c (.d (.sc (.int .i64 0)))),none,0,0⟩] false)
 (.block 0
 (.loop
 (.seq
 (.region [⟨(some 12),.bin .lss (.t 11) (.t 10),none,0,0⟩] false)
 (.seq
 (.cond (.t 12)
 .skip
 (.exit 0))
 (.seq
 (.block 1
 (.seq
 (.region [⟨(some 13),.mov (.t 11),none,0,0⟩,
 ⟨(some 3),.mov (.t 13),none,0,0⟩] false)
 (.seq
 (.region [⟨(some 14),.mov (.t 0),none,0,0⟩,
 ⟨(some 15),.mov (.t 3),none,0,0⟩,
 ⟨(some 16),.callF 75 [(.t 14),(.t 15)],none,0,0⟩,
 ⟨(some 17),.un .not (.t 16),none,0,0⟩] false)
 (.cond (.t 17)
 (.seq
 (.region [⟨(some 2),.mov (.c (.d (.sc (.int .i64 8)))),none,0,0⟩] false)
 .ret)
 .skip))))
 (.region [⟨(some 18),.bin .add (.t 11) (.c (.d (.sc (.int .i64 1)))),none,0,0⟩,
 ⟨(some 11),.mov (.t 18),none,0,0⟩] false)))))))
 (.seq
 (.seq
 (.region [⟨(some 19),.mov (.t 0),none,0,0⟩,
 ⟨(some 20),.call 76 [(.t 19)],none,0,0⟩,
 ⟨(some 21),.len (.t 20),none,0,0⟩,
 ⟨(some 22),.mov (.c (.d (.sc (.int .i64 0)))),none,0,0⟩] false)
 (.block 2
 (.loop
 (.seq
 (.region [⟨(some 23),.bin .lss (.t 22) (.t 21),none,0,0⟩] false)
 (.seq
 (.cond (.t 23)
 .skip
 (.exit 2))
 (.seq
 (.block 3
 (.seq
 (.region [⟨(some 24),.indexAddr 1 (.t 20) (.t 22),none,0,0⟩,
 ⟨(some 25),.load 1 false (.t 24),none,0,0⟩,
 ⟨(some 5),.mov (.t 25),none,0,0⟩] false)
 (.seq
 (.region [⟨(some 26),.mov (.t 5),none,0,0⟩,
 ⟨(some 27),.bin .gtr (.t 26) (.c (.d (.sc (.int .i64 5000)))),none,0,0⟩] false)
 (.cond (.t 27)
 (.seq
 (.region [⟨(some 2),.mov (.c (.d (.sc (.int .i64 8)))),none,0,0⟩] false)
 .ret)
 .skip))))
 (.region [⟨(some 28),.bin .add (.t 22) (.c (.d (.sc (.int .i64 1)))),none,0,0⟩,
 ⟨(some 22),.mov (.t 28),none,0,0⟩] false)))))))
 (.seq
 (.region [⟨(some 2),.mov (.c (.d (.sc (.int .i64 0)))),none,0,0⟩] false)
 .ret))))),false⟩
def t52:AFn:=⟨2,27,[.t 4,.t 5,.t 6],
 (.seq
 (.region [⟨(some 4),.mov (.c (.d (.sc (.int .i64 0)))),none,0,0⟩,
 ⟨(some 5),.mov (.c (.d (.sc (.int .i64 0)))),none,0,0⟩,
 ⟨(some 6),.mov (.c (.d (.sc (.int .i64 0)))),none,0,0⟩] false)
 (.seq
 (.region [⟨(some 9),.mov (.t 0),none,0,0⟩,
 ⟨(some 10),.mov (.t 1),none,0,0⟩,
 ⟨(some 11),.call 77 [(.t 9),(.t 10)],none,0,0⟩,
 ⟨(some 8),.mov (.t 11),none,0,0⟩,
 ⟨(some 12),.extract (.t 8) 0,none,0,0⟩,
 ⟨(some 13),.extract (.t 8) 1,none,0,0⟩,
 ⟨(some 7),.mov (.t 12),none,0,0⟩,
 ⟨(some 6),.mov (.t 13),none,0,0⟩] false)
 (.seq
 (.seq
 (.region [⟨(some 14),.mov (.t 6),none,0,0⟩,
 ⟨(some 15),.bin .neq (.t 14) (.c (.d (.sc (.int .i64 0)))),none,0,0⟩] false)
 (.cond (.t 15)
 (.seq
 (.region [⟨(some 16),.mov (.t 6),none,0,0⟩,
 ⟨(some 4),.mov (.c (.d (.sc (.int .i64 0)))),none,0,0⟩,
 ⟨(some 5),.mov (.c (.d (.sc (.int .i64 0)))),none,0,0⟩,
 ⟨(some 6),.mov (.t 16),none,0,0⟩] false)
 .ret)
 .skip))
 (.seq
 (.region [⟨(some 17),.mov (.t 7),none,0,0⟩,
 ⟨(some 18),.mov (.t 1),none,0,0⟩,
 ⟨(some 19),.indexAddr 2 (.t 17) (.t 18),none,3,0⟩,
 ⟨(some 20),.fieldAddr 0 (.t 19),none,7,0⟩,
 ⟨(some 21),.load 1 false (.t 20),none,15,0⟩,
 ⟨(some 22),.mov (.t 7),none,0,0⟩,
 ⟨(some 23),.mov (.t 1),none,0,0⟩,
 ⟨(some 24),.indexAddr 2 (.t 22) (.t 23),none,96,0⟩,
 ⟨(some 25),.fieldAddr 1 (.t 24),none,224,0⟩,
 ⟨(some 26),.load 1 false (.t 25),none,480,0⟩,
 ⟨(some 4),.mov (.t 21),none,31,0⟩,
 ⟨(some 5),.mov (.t 26),none,2047,0⟩,
 ⟨(some 6),.mov (.c (.d (.sc (.int .i64 0)))),none,4095,0⟩] true)
 .ret)))),false⟩
def t53:AFn:=⟨2,95,[.t 4],
 (.seq
 (.region [⟨(some 3),.box (.t 1),none,0,0⟩,
 ⟨(some 4),.mov (.c (.d (.sc (.bool false)))),none,0,0⟩] false)
 (.seq
 (.seq
 (.region [⟨(some 9),.fieldAddr 0 (.t 3),none,0,0⟩,
 ⟨(some 10),.load 1 false (.t 9),none,0,0⟩,
 ⟨(some 11),.callF 78 [(.t 10)],none,0,0⟩,
 ⟨(some 12),.un .not (.t 11),none,0,0⟩,
 ⟨(some 13),.mov (.t 12),none,0,0⟩,
 ⟨(some 14),.fieldAddr 3 (.t 3),(some (13,false)),0,0⟩,
 ⟨(some 15),.load 1 false (.t 14),(some (13,false)),0,0⟩,
 ⟨(some 16),.len (.t 15),(some (13,false)),0,0⟩,
 ⟨(some 17),.bin .gtr (.t 16) (.c (.d (.sc (.int .i64 16)))),(some (13,false)),0,0⟩,
 ⟨(some 18),.pick (.t 13) (.c (.d (.sc (.bool true)))) (.t 17),none,0,0⟩,
 ⟨(some 19),.mov (.t 18),none,0,0⟩,
 ⟨(some 20),.fieldAddr 3 (.t 3),(some (19,false)),0,0⟩,
 ⟨(some 21),.load 1 false (.t 20),(some (19,false)),0,0⟩,
 ⟨(some 22),.callF 79 [(.t 21)],(some (19,false)),0,0⟩,
 ⟨(some 23),.un .not (.t 22),(some (19,false)),0,0⟩,
 ⟨(some 24),.pick (.t 19) (.c (.d (.sc (.bool true)))) (.t 23),none,0,0⟩,
 ⟨(some 25),.mov (.t 24),none,0,0⟩,
 ⟨(some 26),.fieldAddr 1 (.t 3),(some (25,false)),0,0⟩,
 ⟨(some 27),.load 1 false (.t 26),(some (25,false)),0,0⟩,
 ⟨(some 28),.bin .lss (.t 27) (.c (.d (.sc (.int .i64 0)))),(some (25,false)),0,0⟩,
 ⟨(some 29),.pick (.t 25) (.c (.d (.sc (.bool true)))) (.t 28),none,0,0⟩,
 ⟨(some 30),.mov (.t 29),none,0,0⟩,
 ⟨(some 31),.fieldAddr 1 (.t 3),(some (30,false)),0,0⟩,
 ⟨(some 32),.load 1 false (.t 31),(some (30,false)),0,0⟩,
 ⟨(some 33),.fieldAddr 3 (.t 3),(some (30,false)),0,0⟩,
 ⟨(some 34),.load 1 false (.t 33),(some (30,false)),0,0⟩,
 ⟨(some 35),.len (.t 34),(some (30,false)),0,0⟩,
 ⟨(some 36),.bin .gtr (.t 32) (.t 35),(some (30,false)),0,0⟩,
 ⟨(some 37),.pick (.t 30) (.c (.d (.sc (.bool true)))) (.t 36),none,0,0⟩,
 ⟨(some 38),.mov (.t 37),none,0,0⟩,
 ⟨(some 39),.fieldAddr 2 (.t 3),(some (38,false)),0,0⟩,
 ⟨(some 40),.load 1 false (.t 39),(some (38,false)),0,0⟩,
 ⟨(some 41),.bin .lss (.t 40) (.c (.d (.sc (.int .i64 (-1))))),(some (38,false)),0,0⟩,
 ⟨(some 42),.pick (.t 38) (.c (.d (.sc (.bool true)))) (.t 41),none,0,0⟩,
 ⟨(some 43),.mov (.t 42),none,0,0⟩,
 ⟨(some 44),.fieldAddr 2 (.t 3),(some (43,false)),0,0⟩,
 ⟨(some 45),.load 1 false (.t 44),(some (43,false)),0,0⟩,
 ⟨(some 46),.mov (.t 0),(some (43,false)),0,0⟩,
 ⟨(some 47),.len (.t 46),(some (43,false)),0,0⟩,
 ⟨(some 48),.bin .geq (.t 45) (.t 47),(some (43,false)),0,0⟩,
 ⟨(some 49),.pick (.t 43) (.c (.d (.sc (.bool true)))) (.t 48),none,0,0⟩] false)
 (.cond (.t 49)
 (.seq
 (.region [⟨(some 4),.mov (.c (.d (.sc (.bool false)))),none,0,0⟩] false)
 .ret)
 .skip))
 (.seq
 (.seq
 (.region [⟨(some 50),.fieldAddr 3 (.t 3),none,0,0⟩,
 ⟨(some 51),.load 1 false (.t 50),none,0,0⟩,
 ⟨(some 52),.len (.t 51),none,0,0⟩,
 ⟨(some 53),.mov (.c (.d (.sc (.int .i64 0)))),none,0,0⟩] false)
 (.block 0
 (.loop
 (.seq
 (.region [⟨(some 54),.bin .lss (.t 53) (.t 52),none,0,0⟩] false)
 (.seq
 (.cond (.t 54)
 .skip
 (.exit 0))
 (.seq
 (.block 1
 (.seq
 (.region [⟨(some 55),.indexAddr 2 (.t 51) (.t 53),none,0,0⟩,
 ⟨(some 56),.load 2 true (.t 55),none,0,0⟩,
 ⟨(some 6),.alloc [(.d (.sc (.string ⟨#[]⟩))),(.d (.sc (.int .i64 0)))],none,0,0⟩,
 ⟨none,.store 2 (.t 6) (.t 56),none,0,0⟩] false)
 (.seq
 (.region [⟨(some 57),.fieldAddr 1 (.t 6),none,0,0⟩,
 ⟨(some 58),.load 1 false (.t 57),none,0,0⟩,
 ⟨(some 59),.bin .lss (.t 58) (.c (.d (.sc (.int .i64 0)))),none,0,0⟩,
 ⟨(some 60),.mov (.t 59),none,0,0⟩,
 ⟨(some 61),.fieldAddr 1 (.t 6),(some (60,false)),0,0⟩,
 ⟨(some 62),.load 1 false (.t 61),(some (60,false)),0,0⟩,
 ⟨(some 63),.mov (.t 0),(some (60,false)),0,0⟩,
 ⟨(some 64),.len (.t 63),(some (60,false)),0,0⟩,
 ⟨(some 65),.bin .geq (.t 62) (.t 64),(some (60,false)),0,0⟩,
 ⟨(some 66),.pick (.t 60) (.c (.d (.sc (.bool true)))) (.t 65),none,0,0⟩] false)
 (.cond (.t 66)
 (.seq
 (.region [⟨(some 4),.mov (.c (.d (.sc (.bool false)))),none,0,0⟩] false)
 .ret)
 .skip))))
 (.region [⟨(some 67),.bin .add (.t 53) (.c (.d (.sc (.int .i64 1)))),none,0,0⟩,
 ⟨(some 53),.mov (.t 67),none,0,0⟩] false)))))))
 (.seq
 (.seq
 (.region [⟨(some 68),.fieldAddr 4 (.t 3),none,0,0⟩,
 ⟨(some 69),.load 1 false (.t 68),none,0,0⟩,
 ⟨(some 70),.len (.t 69),none,0,0⟩,
 ⟨(some 71),.mov (.c (.d (.sc (.int .i64 0)))),none,0,0⟩] false)
 (.block 2
 (.loop
 (.seq
 (.region [⟨(some 72),.bin .lss (.t 71) (.t 70),none,0,0⟩] false)
 (.seq
 (.cond (.t 72)
 .skip
 (.exit 2))
 (.seq
 (.block 3
 (.seq
 (.region [⟨(some 73),.indexAddr 4 (.t 69) (.t 71),none,0,0⟩,
 ⟨(some 74),.load 4 true (.t 73),none,0,0⟩,
 ⟨(some 8),.alloc [(.d (.sc (.int .u8 0))),(.d (.sc (.int .i64 0))),(.d (.sc (.int .i64 0))),(.d (.sc (.int .i64 0)))],none,0,0⟩,
 ⟨none,.store 4 (.t 8) (.t 74),none,0,0⟩] false)
 (.seq
 (.region [⟨(some 75),.load 4 true (.t 8),none,0,0⟩,
 ⟨(some 76),.callF 80 [(.t 75)],none,0,0⟩,
 ⟨(some 77),.bin .neq (.t 76) (.c (.d (.sc (.int .i64 0)))),none,0,0⟩] false)
 (.cond (.t 77)
 (.seq
 (.region [⟨(some 4),.mov (.c (.d (.sc (.bool false)))),none,0,0⟩] false)
 .ret)
 .skip))))
 (.region [⟨(some 78),.bin .add (.t 71) (.c (.d (.sc (.int .i64 1)))),none,0,0⟩,
 ⟨(some 71),.mov (.t 78),none,0,0⟩] false)))))))
 (.seq
 (.region [⟨(some 79),.fieldAddr 5 (.t 3),none,0,0⟩,
 ⟨(some 80),.load 1 false (.t 79),none,0,0⟩,
 ⟨(some 81),.fieldAddr 4 (.t 3),none,0,0⟩,
 ⟨(some 82),.load 1 false (.t 81),none,0,0⟩,
 ⟨(some 83),.len (.t 82),none,0,0⟩,
 ⟨(some 84),.callF 81 [(.t 80),(.t 83)],none,0,0⟩,
 ⟨(some 85),.bin .eql (.t 84) (.c (.d (.sc (.int .i64 0)))),none,0,0⟩,
 ⟨(some 86),.mov (.t 85),none,0,0⟩,
 ⟨(some 87),.fieldAddr 6 (.t 3),(some (86,true)),0,0⟩,
 ⟨(some 88),.load 1 false (.t 87),(some (86,true)),0,0⟩,
 ⟨(some 89),.fieldAddr 4 (.t 3),(some (86,true)),0,0⟩,
 ⟨(some 90),.load 1 false (.t 89),(some (86,true)),0,0⟩,
 ⟨(some 91),.len (.t 90),(some (86,true)),0,0⟩,
 ⟨(some 92),.callF 81 [(.t 88),(.t 91)],(some (86,true)),0,0⟩,
 ⟨(some 93),.bin .eql (.t 92) (.c (.d (.sc (.int .i64 0)))),(some (86,true)),0,0⟩,
 ⟨(some 94),.pick (.t 86) (.t 93) (.c (.d (.sc (.bool false)))),none,0,0⟩,
 ⟨(some 4),.mov (.t 94),none,0,0⟩] false)
 .ret))))),false⟩
def t54:AFn:=⟨2,25,[],
 (.seq
 (.region [⟨(some 6),.mov (.t 0),none,0,0⟩,
 ⟨(some 7),.mov (.t 1),none,0,0⟩,
 ⟨(some 8),.len (.t 7),none,0,0⟩,
 ⟨(some 9),.call 32 [(.t 6),(.t 8)],none,0,0⟩] false)
 (.seq
 (.region [⟨(some 10),.mov (.t 1),none,0,0⟩,
 ⟨(some 11),.len (.t 10),none,0,0⟩,
 ⟨(some 12),.mov (.c (.d (.sc (.int .i64 0)))),none,0,0⟩] false)
 (.block 0
 (.loop
 (.seq
 (.region [⟨(some 13),.bin .lss (.t 12) (.t 11),none,0,0⟩] false)
 (.seq
 (.cond (.t 13)
 .skip
 (.exit 0))
 (.seq
 (.block 1
 (.seq
 (.region [⟨(some 14),.indexAddr 2 (.t 10) (.t 12),none,0,0⟩,
 ⟨(some 15),.load 2 true (.t 14),none,0,0⟩,
 ⟨(some 5),.alloc [(.d (.sc (.string ⟨#[]⟩))),(.d (.sc (.int .i64 0)))],none,0,0⟩,
 ⟨none,.store 2 (.t 5) (.t 15),none,0,0⟩] false)
 (.seq
 (.region [⟨(some 16),.mov (.t 0),none,0,0⟩,
 ⟨(some 17),.fieldAddr 0 (.t 5),none,0,0⟩,
 ⟨(some 18),.load 1 false (.t 17),none,0,0⟩,
 ⟨(some 19),.call 33 [(.t 16),(.t 18)],none,0,0⟩] false)
 (.region [⟨(some 20),.mov (.t 0),none,0,0⟩,
 ⟨(some 21),.fieldAddr 1 (.t 5),none,0,0⟩,
 ⟨(some 22),.load 1 false (.t 21),none,0,0⟩,
 ⟨(some 23),.call 32 [(.t 20),(.t 22)],none,0,0⟩] false))))
 (.region [⟨(some 24),.bin .add (.t 12) (.c (.d (.sc (.int .i64 1)))),none,0,0⟩,
 ⟨(some 12),.mov (.t 24),none,0,0⟩] false)))))))),true⟩
def t55:AFn:=⟨1,20,[.t 2],
 (.seq
 (.region [⟨(some 2),.mov (.c (.own [] .full)),none,0,65540⟩] false)
 (.seq
 (.region [⟨(some 3),.alloc [(.own [] .full)],none,0,0⟩] false)
 (.seq
 (.region [⟨(some 5),.makeFunc 82 [(.t 3)],none,0,0⟩,
 ⟨(some 4),.mov (.t 5),none,0,0⟩] false)
 (.seq
 (.block 0
 (.loop
 (.seq
 (.seq
 (.region [⟨(some 6),.mov (.t 0),none,0,0⟩,
 ⟨(some 7),.bin .geq (.t 6) (.c (.d (.sc (.int .u64 128)))),none,0,0⟩] false)
 (.cond (.t 7)
 .skip
 (.exit 0)))
 (.seq
 (.block 1
 (.region [⟨(some 10),.mov (.t 4),none,0,0⟩,
 ⟨(some 11),.mov (.t 0),none,0,0⟩,
 ⟨(some 12),.conv .u8 (.t 11),none,0,0⟩,
 ⟨(some 13),.bin .or (.t 12) (.c (.d (.sc (.int .u8 128)))),none,0,0⟩,
 ⟨(some 14),.callv (.t 10) [(.t 13)],none,0,0⟩] false))
 (.region [⟨(some 8),.mov (.t 0),none,0,0⟩,
 ⟨(some 9),.bin .shr (.t 8) (.c (.d (.sc (.int .u64 7)))),none,0,0⟩,
 ⟨(some 0),.mov (.t 9),none,0,0⟩] false)))))
 (.seq
 (.region [⟨(some 15),.mov (.t 4),none,0,0⟩,
 ⟨(some 16),.mov (.t 0),none,0,0⟩,
 ⟨(some 17),.conv .u8 (.t 16),none,0,0⟩,
 ⟨(some 18),.callv (.t 15) [(.t 17)],none,0,0⟩] false)
 (.seq
 (.region [⟨(some 19),.load 1 false (.t 3),none,0,0⟩,
 ⟨(some 2),.mov (.t 19),none,0,65540⟩] false)
 .ret)))))),false⟩
def t56:AFn:=⟨1,11,[.t 2],
 (.seq
 (.region [⟨(some 2),.mov (.c (.own [] .full)),none,0,0⟩] false)
 (.seq
 (.region [⟨(some 3),.mov (.t 0),none,0,0⟩,
 ⟨(some 4),.conv .u64 (.t 3),none,0,0⟩,
 ⟨(some 5),.bin .shl (.t 4) (.c (.d (.sc (.int .u64 1)))),none,0,0⟩,
 ⟨(some 6),.mov (.t 0),none,0,0⟩,
 ⟨(some 7),.bin .shr (.t 6) (.c (.d (.sc (.int .u64 63)))),none,0,0⟩,
 ⟨(some 8),.conv .u64 (.t 7),none,0,0⟩,
 ⟨(some 9),.bin .xor (.t 5) (.t 8),none,0,0⟩,
 ⟨(some 10),.call 55 [(.t 9)],none,0,0⟩,
 ⟨(some 2),.mov (.t 10),none,0,0⟩] false)
 .ret)),false⟩
def t57:AFn:=⟨1,51,[.t 2,.t 3],
 (.seq
 (.region [⟨(some 1),.box (.t 0),none,0,0⟩,
 ⟨(some 2),.mov (.c (.own [] .full)),none,0,0⟩,
 ⟨(some 3),.mov (.c (.d (.sc (.int .i64 0)))),none,0,0⟩] false)
 (.seq
 (.seq
 (.region [⟨(some 10),.load 4 true (.t 1),none,0,0⟩,
 ⟨(some 11),.callF 80 [(.t 10)],none,0,0⟩,
 ⟨(some 4),.mov (.t 11),none,0,0⟩] false)
 (.seq
 (.region [⟨(some 12),.mov (.t 4),none,0,0⟩,
 ⟨(some 13),.bin .neq (.t 12) (.c (.d (.sc (.int .i64 0)))),none,0,0⟩] false)
 (.cond (.t 13)
 (.seq
 (.region [⟨(some 14),.mov (.t 4),none,0,0⟩,
 ⟨(some 2),.mov (.c (.own [] .full)),none,0,0⟩,
 ⟨(some 3),.mov (.t 14),none,0,0⟩] false)
 .ret)
 .skip)))
 (.seq
 (.region [⟨(some 16),.fieldAddr 0 (.t 1),none,0,0⟩,
 ⟨(some 17),.load 1 false (.t 16),none,0,0⟩,
 ⟨(some 18),.callF 83 [(.t 17)],none,0,0⟩,
 ⟨(some 15),.mov (.t 18),none,0,0⟩,
 ⟨(some 19),.extract (.t 15) 0,none,0,0⟩,
 ⟨(some 20),.extract (.t 15) 1,none,0,0⟩,
 ⟨(some 5),.alloc [(.d (.sc (.int .i64 0))),(.d (.sc (.int .i64 0))),(.d (.sc (.bool false))),(.d (.sc (.bool false))),(.d (.sc (.int .i64 0))),(.d (.sc (.int .i64 0))),(.d (.sc (.bool false))),(.d (.sc (.bool false))),(.d (.sc (.int .i64 0))),(.d (.sc (.int .i64 0))),(.d (.sc (.bool false))),(.d (.sc (.bool false)))],none,0,0⟩,
 ⟨none,.store 12 (.t 5) (.t 19),none,0,0⟩,
 ⟨(some 6),.mov (.t 20),none,0,0⟩] false)
 (.seq
 (.region [⟨(some 21),.fieldAddr 0 (.t 1),none,0,0⟩,
 ⟨(some 22),.load 1 false (.t 21),none,0,0⟩,
 ⟨(some 23),.buildSlice 1 1 [(.sc (.int .u8 0))] [(0,(.t 22))],none,0,0⟩,
 ⟨(some 7),.mov (.t 23),none,0,0⟩] false)
 (.seq
 (.seq
 (.region [⟨(some 24),.load 4 true (.t 1),none,0,0⟩,
 ⟨(some 25),.callF 84 [(.t 24)],none,0,0⟩,
 ⟨(some 26),.mov (.c (.d (.sc (.int .i64 0)))),none,0,0⟩] false)
 (.block 0
 (.loop
 (.seq
 (.region [⟨(some 27),.bin .lss (.t 26) (.c (.d (.sc (.int .i64 3)))),none,0,0⟩] false)
 (.seq
 (.cond (.t 27)
 .skip
 (.exit 0))
 (.seq
 (.block 1
 (.seq
 (.region [⟨(some 28),.mov (.t 26),none,0,0⟩,
 ⟨(some 29),.indexA 3 1 false (.t 25) (.t 26),none,0,0⟩,
 ⟨(some 8),.mov (.t 28),none,0,0⟩,
 ⟨(some 9),.mov (.t 29),none,0,0⟩] false)
 (.block 2
 (.seq
 (.region [⟨(some 36),.mov (.t 8),none,0,0⟩,
 ⟨(some 37),.mov (.t 6),none,0,0⟩,
 ⟨(some 38),.bin .geq (.t 36) (.t 37),none,0,0⟩,
 ⟨(some 35),.mov (.t 38),none,0,0⟩] false)
 (.cond (.t 35)
 .skip
 (.seq
 (.region [⟨(some 40),.mov (.t 8),none,0,0⟩,
 ⟨(some 41),.indexArr 3 4 (.t 5) (.t 40),none,0,0⟩,
 ⟨(some 42),.fieldAddr 0 (.t 41),none,0,0⟩,
 ⟨(some 43),.load 1 false (.t 42),none,0,0⟩,
 ⟨(some 44),.bin .lss (.t 43) (.c (.d (.sc (.int .i64 0)))),none,0,0⟩,
 ⟨(some 39),.mov (.t 44),none,0,0⟩] false)
 (.cond (.t 39)
 (.region [⟨(some 45),.mov (.t 7),none,0,0⟩,
 ⟨(some 46),.mov (.t 9),none,0,0⟩,
 ⟨(some 47),.call 56 [(.t 46)],none,0,0⟩,
 ⟨(some 48),.append 1 1 (.t 45) (.t 47),none,0,0⟩,
 ⟨(some 7),.mov (.t 48),none,0,0⟩] false)
 (.region [⟨(some 30),.mov (.t 7),none,0,0⟩,
 ⟨(some 31),.mov (.t 9),none,0,0⟩,
 ⟨(some 32),.conv .u64 (.t 31),none,0,0⟩,
 ⟨(some 33),.call 55 [(.t 32)],none,0,0⟩,
 ⟨(some 34),.append 1 1 (.t 30) (.t 33),none,0,0⟩,
 ⟨(some 7),.mov (.t 34),none,0,0⟩] false))))))))
 (.region [⟨(some 49),.bin .add (.t 26) (.c (.d (.sc (.int .i64 1)))),none,0,0⟩,
 ⟨(some 26),.mov (.t 49),none,0,0⟩] false)))))))
 (.seq
 (.region [⟨(some 50),.mov (.t 7),none,0,0⟩,
 ⟨(some 2),.mov (.t 50),none,0,0⟩,
 ⟨(some 3),.mov (.c (.d (.sc (.int .i64 0)))),none,0,0⟩] false)
 .ret)))))),false⟩
def t58:AFn:=⟨2,44,[.t 4,.t 5],
 (.seq
 (.region [⟨(some 4),.mov (.c (.own [] .full)),none,0,0⟩,
 ⟨(some 5),.mov (.c (.d (.sc (.int .i64 0)))),none,0,0⟩] false)
 (.seq
 (.seq
 (.region [⟨(some 11),.mov (.t 0),none,0,0⟩,
 ⟨(some 12),.mov (.t 1),none,0,0⟩,
 ⟨(some 13),.callF 81 [(.t 11),(.t 12)],none,0,0⟩,
 ⟨(some 6),.mov (.t 13),none,0,0⟩] false)
 (.seq
 (.region [⟨(some 14),.mov (.t 6),none,0,0⟩,
 ⟨(some 15),.bin .neq (.t 14) (.c (.d (.sc (.int .i64 0)))),none,0,0⟩] false)
 (.cond (.t 15)
 (.seq
 (.region [⟨(some 16),.mov (.t 6),none,0,0⟩,
 ⟨(some 4),.mov (.c (.own [] .full)),none,0,0⟩,
 ⟨(some 5),.mov (.t 16),none,0,0⟩] false)
 .ret)
 .skip)))
 (.seq
 (.region [⟨(some 17),.mov (.t 0),none,0,0⟩,
 ⟨(some 18),.len (.t 17),none,0,0⟩,
 ⟨(some 19),.conv .u64 (.t 18),none,0,0⟩,
 ⟨(some 20),.call 55 [(.t 19)],none,0,65537⟩,
 ⟨(some 7),.mov (.t 20),none,0,0⟩] false)
 (.seq
 (.region [⟨(some 8),.mov (.c (.d (.sc (.int .i64 0)))),none,0,0⟩] false)
 (.seq
 (.seq
 (.region [⟨(some 21),.mov (.t 0),none,0,0⟩,
 ⟨(some 22),.len (.t 21),none,0,0⟩,
 ⟨(some 23),.mov (.c (.d (.sc (.int .i64 0)))),none,0,0⟩] false)
 (.block 0
 (.loop
 (.seq
 (.region [⟨(some 24),.bin .lss (.t 23) (.t 22),none,0,0⟩] false)
 (.seq
 (.cond (.t 24)
 .skip
 (.exit 0))
 (.seq
 (.block 1
 (.seq
 (.region [⟨(some 25),.indexAddr 2 (.t 21) (.t 23),none,0,0⟩,
 ⟨(some 26),.load 2 true (.t 25),none,0,0⟩,
 ⟨(some 10),.alloc [(.d (.sc (.int .i64 0))),(.d (.sc (.int .u64 0)))],none,0,0⟩,
 ⟨none,.store 2 (.t 10) (.t 26),none,0,0⟩] false)
 (.seq
 (.region [⟨(some 27),.mov (.t 7),none,0,0⟩,
 ⟨(some 28),.fieldAddr 0 (.t 10),none,0,0⟩,
 ⟨(some 29),.load 1 false (.t 28),none,0,0⟩,
 ⟨(some 30),.mov (.t 8),none,0,0⟩,
 ⟨(some 31),.bin .sub (.t 29) (.t 30),none,0,0⟩,
 ⟨(some 32),.conv .u64 (.t 31),none,0,0⟩,
 ⟨(some 33),.call 55 [(.t 32)],none,0,0⟩,
 ⟨(some 34),.append 1 1 (.t 27) (.t 33),none,0,0⟩,
 ⟨(some 7),.mov (.t 34),none,0,0⟩] false)
 (.seq
 (.region [⟨(some 35),.mov (.t 7),none,0,0⟩,
 ⟨(some 36),.fieldAddr 1 (.t 10),none,0,0⟩,
 ⟨(some 37),.load 1 false (.t 36),none,0,0⟩,
 ⟨(some 38),.call 55 [(.t 37)],none,0,0⟩,
 ⟨(some 39),.append 1 1 (.t 35) (.t 38),none,0,0⟩,
 ⟨(some 7),.mov (.t 39),none,0,0⟩] false)
 (.region [⟨(some 40),.fieldAddr 0 (.t 10),none,0,0⟩,
 ⟨(some 41),.load 1 false (.t 40),none,0,0⟩,
 ⟨(some 8),.mov (.t 41),none,0,0⟩] false)))))
 (.region [⟨(some 42),.bin .add (.t 23) (.c (.d (.sc (.int .i64 1)))),none,0,0⟩,
 ⟨(some 23),.mov (.t 42),none,0,0⟩] false)))))))
 (.seq
 (.region [⟨(some 43),.mov (.t 7),none,0,0⟩,
 ⟨(some 4),.mov (.t 43),none,0,0⟩,
 ⟨(some 5),.mov (.c (.d (.sc (.int .i64 0)))),none,0,0⟩] false)
 .ret)))))),false⟩
def t62:AFn:=⟨2,26,[.t 4],
 (.seq
 (.region [⟨(some 4),.mov (.c (.d (.sc (.bool false)))),none,0,0⟩] false)
 (.seq
 (.seq
 (.region [⟨(some 6),.mov (.t 0),none,0,0⟩,
 ⟨(some 7),.len (.t 6),none,0,0⟩,
 ⟨(some 8),.mov (.t 1),none,0,0⟩,
 ⟨(some 9),.len (.t 8),none,0,0⟩,
 ⟨(some 10),.bin .neq (.t 7) (.t 9),none,0,0⟩] false)
 (.cond (.t 10)
 (.seq
 (.region [⟨(some 4),.mov (.c (.d (.sc (.bool false)))),none,0,0⟩] false)
 .ret)
 .skip))
 (.seq
 (.seq
 (.region [⟨(some 5),.mov (.c (.d (.sc (.int .i64 0)))),none,0,0⟩] false)
 (.block 0
 (.loop
 (.seq
 (.seq
 (.region [⟨(some 11),.mov (.t 5),none,0,0⟩,
 ⟨(some 12),.mov (.t 0),none,0,0⟩,
 ⟨(some 13),.len (.t 12),none,0,0⟩,
 ⟨(some 14),.bin .lss (.t 11) (.t 13),none,0,0⟩] false)
 (.cond (.t 14)
 .skip
 (.exit 0)))
 (.seq
 (.block 1
 (.seq
 (.region [⟨(some 17),.mov (.t 0),none,0,0⟩,
 ⟨(some 18),.mov (.t 5),none,0,0⟩,
 ⟨(some 19),.indexAddr 2 (.t 17) (.t 18),none,3,0⟩,
 ⟨(some 20),.load 2 true (.t 19),none,7,0⟩,
 ⟨(some 21),.mov (.t 1),none,0,0⟩,
 ⟨(some 22),.mov (.t 5),none,0,0⟩,
 ⟨(some 23),.indexAddr 2 (.t 21) (.t 22),none,48,0⟩,
 ⟨(some 24),.load 2 true (.t 23),none,112,0⟩,
 ⟨(some 25),.eqA true 2 [(0,2),(1,1)] (.t 20) (.t 24),none,255,0⟩] true)
 (.cond (.t 25)
 (.seq
 (.region [⟨(some 4),.mov (.c (.d (.sc (.bool false)))),none,0,0⟩] false)
 .ret)
 .skip)))
 (.region [⟨(some 15),.mov (.t 5),none,0,0⟩,
 ⟨(some 16),.bin .add (.t 15) (.c (.d (.sc (.int .i64 1)))),none,0,0⟩,
 ⟨(some 5),.mov (.t 16),none,0,0⟩] false))))))
 (.seq
 (.region [⟨(some 4),.mov (.c (.d (.sc (.bool true)))),none,0,0⟩] false)
 .ret)))),false⟩
def t63:AFn:=⟨2,26,[.t 4],
 (.seq
 (.region [⟨(some 4),.mov (.c (.d (.sc (.bool false)))),none,0,0⟩] false)
 (.seq
 (.seq
 (.region [⟨(some 6),.mov (.t 0),none,0,0⟩,
 ⟨(some 7),.len (.t 6),none,0,0⟩,
 ⟨(some 8),.mov (.t 1),none,0,0⟩,
 ⟨(some 9),.len (.t 8),none,0,0⟩,
 ⟨(some 10),.bin .neq (.t 7) (.t 9),none,0,0⟩] false)
 (.cond (.t 10)
 (.seq
 (.region [⟨(some 4),.mov (.c (.d (.sc (.bool false)))),none,0,0⟩] false)
 .ret)
 .skip))
 (.seq
 (.seq
 (.region [⟨(some 5),.mov (.c (.d (.sc (.int .i64 0)))),none,0,0⟩] false)
 (.block 0
 (.loop
 (.seq
 (.seq
 (.region [⟨(some 11),.mov (.t 5),none,0,0⟩,
 ⟨(some 12),.mov (.t 0),none,0,0⟩,
 ⟨(some 13),.len (.t 12),none,0,0⟩,
 ⟨(some 14),.bin .lss (.t 11) (.t 13),none,0,0⟩] false)
 (.cond (.t 14)
 .skip
 (.exit 0)))
 (.seq
 (.block 1
 (.seq
 (.region [⟨(some 17),.mov (.t 0),none,0,0⟩,
 ⟨(some 18),.mov (.t 5),none,0,0⟩,
 ⟨(some 19),.indexAddr 4 (.t 17) (.t 18),none,3,0⟩,
 ⟨(some 20),.load 4 true (.t 19),none,7,0⟩,
 ⟨(some 21),.mov (.t 1),none,0,0⟩,
 ⟨(some 22),.mov (.t 5),none,0,0⟩,
 ⟨(some 23),.indexAddr 4 (.t 21) (.t 22),none,48,0⟩,
 ⟨(some 24),.load 4 true (.t 23),none,112,0⟩,
 ⟨(some 25),.eqA true 4 [(0,1),(1,1),(2,1),(3,1)] (.t 20) (.t 24),none,255,0⟩] true)
 (.cond (.t 25)
 (.seq
 (.region [⟨(some 4),.mov (.c (.d (.sc (.bool false)))),none,0,0⟩] false)
 .ret)
 .skip)))
 (.region [⟨(some 15),.mov (.t 5),none,0,0⟩,
 ⟨(some 16),.bin .add (.t 15) (.c (.d (.sc (.int .i64 1)))),none,0,0⟩,
 ⟨(some 5),.mov (.t 16),none,0,0⟩] false))))))
 (.seq
 (.region [⟨(some 4),.mov (.c (.d (.sc (.bool true)))),none,0,0⟩] false)
 .ret)))),false⟩
def t64:AFn:=⟨2,26,[.t 4],
 (.seq
 (.region [⟨(some 4),.mov (.c (.d (.sc (.bool false)))),none,0,0⟩] false)
 (.seq
 (.seq
 (.region [⟨(some 6),.mov (.t 0),none,0,0⟩,
 ⟨(some 7),.len (.t 6),none,0,0⟩,
 ⟨(some 8),.mov (.t 1),none,0,0⟩,
 ⟨(some 9),.len (.t 8),none,0,0⟩,
 ⟨(some 10),.bin .neq (.t 7) (.t 9),none,0,0⟩] false)
 (.cond (.t 10)
 (.seq
 (.region [⟨(some 4),.mov (.c (.d (.sc (.bool false)))),none,0,0⟩] false)
 .ret)
 .skip))
 (.seq
 (.seq
 (.region [⟨(some 5),.mov (.c (.d (.sc (.int .i64 0)))),none,0,0⟩] false)
 (.block 0
 (.loop
 (.seq
 (.seq
 (.region [⟨(some 11),.mov (.t 5),none,0,0⟩,
 ⟨(some 12),.mov (.t 0),none,0,0⟩,
 ⟨(some 13),.len (.t 12),none,0,0⟩,
 ⟨(some 14),.bin .lss (.t 11) (.t 13),none,0,0⟩] false)
 (.cond (.t 14)
 .skip
 (.exit 0)))
 (.seq
 (.block 1
 (.seq
 (.region [⟨(some 17),.mov (.t 0),none,0,0⟩,
 ⟨(some 18),.mov (.t 5),none,0,0⟩,
 ⟨(some 19),.indexAddr 2 (.t 17) (.t 18),none,3,0⟩,
 ⟨(some 20),.load 2 true (.t 19),none,7,0⟩,
 ⟨(some 21),.mov (.t 1),none,0,0⟩,
 ⟨(some 22),.mov (.t 5),none,0,0⟩,
 ⟨(some 23),.indexAddr 2 (.t 21) (.t 22),none,48,0⟩,
 ⟨(some 24),.load 2 true (.t 23),none,112,0⟩,
 ⟨(some 25),.eqA true 2 [(0,1),(1,1)] (.t 20) (.t 24),none,255,0⟩] true)
 (.cond (.t 25)
 (.seq
 (.region [⟨(some 4),.mov (.c (.d (.sc (.bool false)))),none,0,0⟩] false)
 .ret)
 .skip)))
 (.region [⟨(some 15),.mov (.t 5),none,0,0⟩,
 ⟨(some 16),.bin .add (.t 15) (.c (.d (.sc (.int .i64 1)))),none,0,0⟩,
 ⟨(some 5),.mov (.t 16),none,0,0⟩] false))))))
 (.seq
 (.region [⟨(some 4),.mov (.c (.d (.sc (.bool true)))),none,0,0⟩] false)
 .ret)))),false⟩
def t68:AFn:=⟨2,67,[.cell 4 2 true,.t 5,.t 6],
 (.seq
 (.region [⟨(some 2),.box (.t 0),none,0,0⟩,
 ⟨(some 4),.alloc [(.own [] .full),(.d (.sc (.int .i64 0)))],none,0,0⟩,
 ⟨(some 5),.mov (.c (.d (.sc (.int .u64 0)))),none,0,0⟩,
 ⟨(some 6),.mov (.c (.d (.sc (.int .i64 0)))),none,0,0⟩] false)
 (.seq
 (.seq
 (.region [⟨(some 11),.load 2 true (.t 2),none,0,0⟩,
 ⟨(some 12),.callF 92 [(.t 11)],none,0,0⟩,
 ⟨(some 7),.mov (.t 12),none,0,0⟩] false)
 (.seq
 (.region [⟨(some 13),.mov (.t 7),none,0,0⟩,
 ⟨(some 14),.bin .neq (.t 13) (.c (.d (.sc (.int .i64 0)))),none,0,0⟩] false)
 (.cond (.t 14)
 (.seq
 (.region [⟨(some 15),.build [(.own [] .full),(.d (.sc (.int .i64 0)))] [],none,0,0⟩,
 ⟨(some 16),.mov (.t 7),none,0,0⟩,
 ⟨none,.store 2 (.t 4) (.t 15),none,0,0⟩,
 ⟨(some 5),.mov (.c (.d (.sc (.int .u64 0)))),none,0,0⟩,
 ⟨(some 6),.mov (.t 16),none,0,0⟩] false)
 .ret)
 .skip)))
 (.seq
 (.region [⟨(some 8),.mov (.c (.d (.sc (.int .u64 0)))),none,0,0⟩] false)
 (.seq
 (.seq
 (.region [⟨(some 9),.mov (.c (.d (.sc (.int .i64 0)))),none,0,0⟩] false)
 (.block 0
 (.loop
 (.seq
 (.block 1
 (.seq
 (.seq
 (.region [⟨(some 19),.fieldAddr 1 (.t 2),none,0,0⟩,
 ⟨(some 20),.load 1 false (.t 19),none,0,0⟩,
 ⟨(some 21),.fieldAddr 0 (.t 2),none,0,0⟩,
 ⟨(some 22),.load 1 false (.t 21),none,0,0⟩,
 ⟨(some 23),.len (.t 22),none,0,0⟩,
 ⟨(some 24),.bin .eql (.t 20) (.t 23),none,0,0⟩] false)
 (.cond (.t 24)
 (.seq
 (.region [⟨(some 25),.build [(.own [] .full),(.d (.sc (.int .i64 0)))] [],none,0,0⟩,
 ⟨none,.store 2 (.t 4) (.t 25),none,0,0⟩,
 ⟨(some 5),.mov (.c (.d (.sc (.int .u64 0)))),none,0,0⟩,
 ⟨(some 6),.mov (.c (.d (.sc (.int .i64 24)))),none,0,0⟩] false)
 .ret)
 .skip))
 (.seq
 (.region [⟨(some 26),.fieldAddr 0 (.t 2),none,0,0⟩,
 ⟨(some 27),.load 1 false (.t 26),none,0,0⟩,
 ⟨(some 28),.fieldAddr 1 (.t 2),none,0,0⟩,
 ⟨(some 29),.load 1 false (.t 28),none,0,0⟩,
 ⟨(some 30),.indexAddr 1 (.t 27) (.t 29),none,0,0⟩,
 ⟨(some 31),.load 1 false (.t 30),none,0,0⟩,
 ⟨(some 10),.mov (.t 31),none,0,0⟩] false)
 (.seq
 (.region [⟨(some 32),.fieldAddr 1 (.t 2),none,0,0⟩,
 ⟨(some 33),.load 1 false (.t 32),none,0,0⟩,
 ⟨(some 34),.bin .add (.t 33) (.c (.d (.sc (.int .i64 1)))),none,0,0⟩,
 ⟨(some 35),.fieldAddr 1 (.t 2),none,0,0⟩,
 ⟨none,.store 1 (.t 35) (.t 34),none,0,0⟩] false)
 (.seq
 (.seq
 (.region [⟨(some 36),.mov (.t 9),none,0,0⟩,
 ⟨(some 37),.bin .eql (.t 36) (.c (.d (.sc (.int .i64 9)))),none,0,0⟩,
 ⟨(some 38),.mov (.t 37),none,0,0⟩,
 ⟨(some 39),.mov (.t 10),(some (38,true)),0,0⟩,
 ⟨(some 40),.bin .gtr (.t 39) (.c (.d (.sc (.int .u8 1)))),(some (38,true)),0,0⟩,
 ⟨(some 41),.pick (.t 38) (.t 40) (.c (.d (.sc (.bool false)))),none,0,0⟩,
 ⟨(some 42),.mov (.t 41),none,0,0⟩,
 ⟨(some 43),.mov (.t 9),(some (42,false)),0,0⟩,
 ⟨(some 44),.bin .gtr (.t 43) (.c (.d (.sc (.int .i64 0)))),(some (42,false)),0,0⟩,
 ⟨(some 45),.mov (.t 44),(some (42,false)),0,0⟩,
 ⟨(some 46),.mov (.t 10),(some (45,true)),0,0⟩,
 ⟨(some 47),.bin .eql (.t 46) (.c (.d (.sc (.int .u8 0)))),(some (45,true)),0,0⟩,
 ⟨(some 48),.pick (.t 45) (.t 47) (.c (.d (.sc (.bool false)))),(some (42,false)),0,0⟩,
 ⟨(some 49),.pick (.t 42) (.c (.d (.sc (.bool true)))) (.t 48),none,0,0⟩] false)
 (.cond (.t 49)
 (.seq
 (.region [⟨(some 50),.build [(.own [] .full),(.d (.sc (.int .i64 0)))] [],none,0,0⟩,
 ⟨none,.store 2 (.t 4) (.t 50),none,0,0⟩,
 ⟨(some 5),.mov (.c (.d (.sc (.int .u64 0)))),none,0,0⟩,
 ⟨(some 6),.mov (.c (.d (.sc (.int .i64 12)))),none,0,0⟩] false)
 .ret)
 .skip))
 (.seq
 (.region [⟨(some 51),.mov (.t 8),none,0,0⟩,
 ⟨(some 52),.mov (.t 10),none,0,0⟩,
 ⟨(some 53),.bin .and (.t 52) (.c (.d (.sc (.int .u8 127)))),none,0,0⟩,
 ⟨(some 54),.conv .u64 (.t 53),none,0,0⟩,
 ⟨(some 55),.mov (.t 9),none,0,0⟩,
 ⟨(some 56),.bin .mul (.c (.d (.sc (.int .i64 7)))) (.t 55),none,0,0⟩,
 ⟨(some 57),.bin .shl (.t 54) (.t 56),none,0,0⟩,
 ⟨(some 58),.bin .or (.t 51) (.t 57),none,0,0⟩,
 ⟨(some 8),.mov (.t 58),none,0,0⟩] false)
 (.seq
 (.region [⟨(some 59),.mov (.t 10),none,0,0⟩,
 ⟨(some 60),.bin .lss (.t 59) (.c (.d (.sc (.int .u8 128)))),none,0,0⟩] false)
 (.cond (.t 60)
 (.exit 0)
 .skip))))))))
 (.region [⟨(some 17),.mov (.t 9),none,0,0⟩,
 ⟨(some 18),.bin .add (.t 17) (.c (.d (.sc (.int .i64 1)))),none,0,0⟩,
 ⟨(some 9),.mov (.t 18),none,0,0⟩] false)))))
 (.seq
 (.seq
 (.region [⟨(some 61),.mov (.t 8),none,0,0⟩,
 ⟨(some 62),.mov (.t 1),none,0,0⟩,
 ⟨(some 63),.bin .gtr (.t 61) (.t 62),none,0,0⟩] false)
 (.cond (.t 63)
 (.seq
 (.region [⟨(some 64),.build [(.own [] .full),(.d (.sc (.int .i64 0)))] [],none,0,0⟩,
 ⟨none,.store 2 (.t 4) (.t 64),none,0,0⟩,
 ⟨(some 5),.mov (.c (.d (.sc (.int .u64 0)))),none,0,0⟩,
 ⟨(some 6),.mov (.c (.d (.sc (.int .i64 4)))),none,0,0⟩] false)
 .ret)
 .skip))
 (.seq
 (.region [⟨(some 65),.load 2 true (.t 2),none,0,0⟩,
 ⟨(some 66),.mov (.t 8),none,0,0⟩,
 ⟨none,.store 2 (.t 4) (.t 65),none,0,0⟩,
 ⟨(some 5),.mov (.t 66),none,0,0⟩,
 ⟨(some 6),.mov (.c (.d (.sc (.int .i64 0)))),none,0,0⟩] false)
 .ret)))))),false⟩
def t69:AFn:=⟨2,60,[.cell 4 2 true,.t 5,.t 6],
 (.seq
 (.region [⟨(some 2),.box (.t 0),none,0,0⟩,
 ⟨(some 4),.alloc [(.own [] .full),(.d (.sc (.int .i64 0)))],none,0,0⟩,
 ⟨(some 5),.mov (.c (.d (.sc (.int .u64 0)))),none,0,0⟩,
 ⟨(some 6),.mov (.c (.d (.sc (.int .i64 0)))),none,0,0⟩] false)
 (.seq
 (.seq
 (.region [⟨(some 11),.load 2 true (.t 2),none,0,0⟩,
 ⟨(some 12),.callF 92 [(.t 11)],none,0,0⟩,
 ⟨(some 13),.mov (.t 1),none,0,0⟩,
 ⟨(some 14),.callF 94 [(.t 13)],none,0,0⟩,
 ⟨(some 15),.buildSlice 1 2 [(.sc (.int .i64 0))] [(0,(.t 12)),(1,(.t 14))],none,0,2⟩,
 ⟨(some 16),.callF 93 [(.t 15)],none,0,0⟩,
 ⟨(some 7),.mov (.t 16),none,0,0⟩] false)
 (.seq
 (.region [⟨(some 17),.mov (.t 7),none,0,0⟩,
 ⟨(some 18),.bin .neq (.t 17) (.c (.d (.sc (.int .i64 0)))),none,0,0⟩] false)
 (.cond (.t 18)
 (.seq
 (.region [⟨(some 19),.build [(.own [] .full),(.d (.sc (.int .i64 0)))] [],none,0,0⟩,
 ⟨(some 20),.mov (.t 7),none,0,0⟩,
 ⟨none,.store 2 (.t 4) (.t 19),none,0,0⟩,
 ⟨(some 5),.mov (.c (.d (.sc (.int .u64 0)))),none,0,0⟩,
 ⟨(some 6),.mov (.t 20),none,0,0⟩] false)
 .ret)
 .skip)))
 (.seq
 (.seq
 (.region [⟨(some 21),.mov (.t 1),none,0,0⟩,
 ⟨(some 22),.fieldAddr 0 (.t 2),none,0,0⟩,
 ⟨(some 23),.load 1 false (.t 22),none,0,0⟩,
 ⟨(some 24),.len (.t 23),none,0,0⟩,
 ⟨(some 25),.fieldAddr 1 (.t 2),none,0,0⟩,
 ⟨(some 26),.load 1 false (.t 25),none,0,0⟩,
 ⟨(some 27),.bin .sub (.t 24) (.t 26),none,0,0⟩,
 ⟨(some 28),.bin .gtr (.t 21) (.t 27),none,0,0⟩] false)
 (.cond (.t 28)
 (.seq
 (.region [⟨(some 29),.build [(.own [] .full),(.d (.sc (.int .i64 0)))] [],none,0,0⟩,
 ⟨none,.store 2 (.t 4) (.t 29),none,0,0⟩,
 ⟨(some 5),.mov (.c (.d (.sc (.int .u64 0)))),none,0,0⟩,
 ⟨(some 6),.mov (.c (.d (.sc (.int .i64 24)))),none,0,0⟩] false)
 .ret)
 .skip))
 (.seq
 (.region [⟨(some 8),.mov (.c (.d (.sc (.int .u64 0)))),none,0,0⟩] false)
 (.seq
 (.seq
 (.region [⟨(some 30),.fieldAddr 0 (.t 2),none,0,0⟩,
 ⟨(some 31),.load 1 false (.t 30),none,0,0⟩,
 ⟨(some 32),.fieldAddr 1 (.t 2),none,0,0⟩,
 ⟨(some 33),.load 1 false (.t 32),none,0,0⟩,
 ⟨(some 34),.fieldAddr 1 (.t 2),none,0,0⟩,
 ⟨(some 35),.load 1 false (.t 34),none,0,0⟩,
 ⟨(some 36),.mov (.t 1),none,0,0⟩,
 ⟨(some 37),.bin .add (.t 35) (.t 36),none,0,0⟩,
 ⟨(some 38),.slice 1 (.t 31) (some (.t 33)) (some (.t 37)) none,none,0,0⟩,
 ⟨(some 39),.len (.t 38),none,0,0⟩,
 ⟨(some 40),.mov (.c (.d (.sc (.int .i64 0)))),none,0,0⟩] false)
 (.block 0
 (.loop
 (.seq
 (.region [⟨(some 41),.bin .lss (.t 40) (.t 39),none,0,0⟩] false)
 (.seq
 (.cond (.t 41)
 .skip
 (.exit 0))
 (.seq
 (.block 1
 (.seq
 (.region [⟨(some 42),.mov (.t 40),none,0,0⟩,
 ⟨(some 43),.indexAddr 1 (.t 38) (.t 40),none,0,0⟩,
 ⟨(some 44),.load 1 false (.t 43),none,0,0⟩,
 ⟨(some 9),.mov (.t 42),none,0,0⟩,
 ⟨(some 10),.mov (.t 44),none,0,0⟩] false)
 (.region [⟨(some 45),.mov (.t 8),none,0,0⟩,
 ⟨(some 46),.mov (.t 10),none,0,0⟩,
 ⟨(some 47),.conv .u64 (.t 46),none,0,0⟩,
 ⟨(some 48),.mov (.t 9),none,0,0⟩,
 ⟨(some 49),.bin .mul (.c (.d (.sc (.int .i64 8)))) (.t 48),none,0,0⟩,
 ⟨(some 50),.bin .shl (.t 47) (.t 49),none,0,0⟩,
 ⟨(some 51),.bin .or (.t 45) (.t 50),none,0,0⟩,
 ⟨(some 8),.mov (.t 51),none,0,0⟩] false)))
 (.region [⟨(some 52),.bin .add (.t 40) (.c (.d (.sc (.int .i64 1)))),none,0,0⟩,
 ⟨(some 40),.mov (.t 52),none,0,0⟩] false)))))))
 (.seq
 (.region [⟨(some 53),.fieldAddr 1 (.t 2),none,0,0⟩,
 ⟨(some 54),.load 1 false (.t 53),none,0,0⟩,
 ⟨(some 55),.mov (.t 1),none,0,0⟩,
 ⟨(some 56),.bin .add (.t 54) (.t 55),none,0,0⟩,
 ⟨(some 57),.fieldAddr 1 (.t 2),none,0,0⟩,
 ⟨none,.store 1 (.t 57) (.t 56),none,0,0⟩] false)
 (.seq
 (.region [⟨(some 58),.load 2 true (.t 2),none,0,0⟩,
 ⟨(some 59),.mov (.t 8),none,0,0⟩,
 ⟨none,.store 2 (.t 4) (.t 58),none,0,0⟩,
 ⟨(some 5),.mov (.t 59),none,0,0⟩,
 ⟨(some 6),.mov (.c (.d (.sc (.int .i64 0)))),none,0,0⟩] false)
 .ret))))))),false⟩
def t70:AFn:=⟨2,23,[.t 4],
 (.seq
 (.region [⟨(some 4),.mov (.c (.own [] .full)),none,0,0⟩] false)
 (.seq
 (.region [⟨(some 5),.mov (.c (.own [] .full)),none,0,0⟩] false)
 (.seq
 (.seq
 (.region [⟨(some 7),.mov (.t 0),none,0,0⟩,
 ⟨(some 8),.mov (.t 1),none,0,0⟩,
 ⟨(some 9),.call 47 [(.t 7),(.t 8)],none,0,0⟩,
 ⟨(some 10),.mov (.c (.d (.sc (.int .i64 0)))),none,0,0⟩] false)
 (.block 0
 (.loop
 (.seq
 (.region [⟨(some 11),.bin .lss (.t 10) (.t 9),none,0,0⟩] false)
 (.seq
 (.cond (.t 11)
 .skip
 (.exit 0))
 (.seq
 (.block 1
 (.seq
 (.region [⟨(some 12),.mov (.t 0),none,0,0⟩,
 ⟨(some 13),.call 49 [(.t 12),(.c (.d (.sc (.int .i64 16))))],none,0,0⟩,
 ⟨(some 14),.mov (.t 0),none,0,0⟩,
 ⟨(some 15),.call 47 [(.t 14),(.c (.d (.sc (.int .i64 32))))],none,0,0⟩,
 ⟨(some 16),.build [(.d (.sc (.string ⟨#[]⟩))),(.d (.sc (.int .i64 0)))] [(0,1,(.t 13)),(1,1,(.t 15))],none,0,0⟩,
 ⟨(some 6),.alloc [(.d (.sc (.string ⟨#[]⟩))),(.d (.sc (.int .i64 0)))],none,0,0⟩,
 ⟨none,.store 2 (.t 6) (.t 16),none,0,0⟩] false)
 (.region [⟨(some 17),.mov (.t 5),none,0,0⟩,
 ⟨(some 18),.load 2 true (.t 6),none,0,0⟩,
 ⟨(some 19),.buildSlice 2 1 [(.sc (.string ⟨#[]⟩)),(.sc (.int .i64 0))] [(0,(.t 18))],none,0,0⟩,
 ⟨(some 20),.append 2 24 (.t 17) (.t 19),none,0,0⟩,
 ⟨(some 5),.mov (.t 20),none,0,0⟩] false)))
 (.region [⟨(some 21),.bin .add (.t 10) (.c (.d (.sc (.int .i64 1)))),none,0,0⟩,
 ⟨(some 10),.mov (.t 21),none,0,0⟩] false)))))))
 (.seq
 (.region [⟨(some 22),.mov (.t 5),none,0,0⟩,
 ⟨(some 4),.mov (.t 22),none,0,0⟩] false)
 .ret)))),false⟩
def t71:AFn:=⟨2,71,[.cell 4 2 true,.t 5,.t 6],
 (.seq
 (.region [⟨(some 2),.box (.t 0),none,0,0⟩,
 ⟨(some 4),.alloc [(.own [] .full),(.d (.sc (.int .i64 0)))],none,0,0⟩,
 ⟨(some 5),.mov (.c (.d (.sc (.string ⟨#[]⟩)))),none,0,0⟩,
 ⟨(some 6),.mov (.c (.d (.sc (.int .i64 0)))),none,0,0⟩] false)
 (.seq
 (.region [⟨(some 11),.load 2 true (.t 2),none,0,0⟩,
 ⟨(some 12),.callF 92 [(.t 11)],none,0,0⟩,
 ⟨(some 7),.mov (.t 12),none,0,0⟩] false)
 (.seq
 (.seq
 (.region [⟨(some 13),.mov (.t 7),none,0,0⟩,
 ⟨(some 14),.bin .eql (.t 13) (.c (.d (.sc (.int .i64 0)))),none,0,0⟩,
 ⟨(some 15),.mov (.t 14),none,0,0⟩,
 ⟨(some 16),.mov (.t 1),(some (15,true)),0,0⟩,
 ⟨(some 17),.bin .lss (.t 16) (.c (.d (.sc (.int .i64 0)))),(some (15,true)),0,0⟩,
 ⟨(some 18),.mov (.t 17),(some (15,true)),0,0⟩,
 ⟨(some 19),.mov (.t 1),(some (18,false)),0,0⟩,
 ⟨(some 20),.bin .gtr (.t 19) (.c (.d (.sc (.int .i64 200000)))),(some (18,false)),0,0⟩,
 ⟨(some 21),.pick (.t 18) (.c (.d (.sc (.bool true)))) (.t 20),(some (15,true)),0,0⟩,
 ⟨(some 22),.pick (.t 15) (.t 21) (.c (.d (.sc (.bool false)))),none,0,0⟩] false)
 (.cond (.t 22)
 (.region [⟨(some 7),.mov (.c (.d (.sc (.int .i64 2)))),none,0,0⟩] false)
 .skip))
 (.seq
 (.seq
 (.region [⟨(some 23),.mov (.t 7),none,0,0⟩,
 ⟨(some 24),.bin .neq (.t 23) (.c (.d (.sc (.int .i64 0)))),none,0,0⟩] false)
 (.cond (.t 24)
 (.seq
 (.region [⟨(some 25),.build [(.own [] .full),(.d (.sc (.int .i64 0)))] [],none,0,0⟩,
 ⟨(some 26),.mov (.t 7),none,0,0⟩,
 ⟨none,.store 2 (.t 4) (.t 25),none,0,0⟩,
 ⟨(some 5),.mov (.c (.d (.sc (.string ⟨#[]⟩)))),none,0,0⟩,
 ⟨(some 6),.mov (.t 26),none,0,0⟩] false)
 .ret)
 .skip))
 (.seq
 (.region [⟨(some 28),.load 2 true (.t 2),none,0,0⟩,
 ⟨(some 29),.mov (.t 1),none,0,0⟩,
 ⟨(some 30),.conv .u64 (.t 29),none,0,0⟩,
 ⟨(some 31),.call 68 [(.t 28),(.t 30)],none,0,0⟩,
 ⟨(some 27),.mov (.t 31),none,0,0⟩,
 ⟨(some 32),.extract (.t 27) 0,none,0,0⟩,
 ⟨(some 33),.extract (.t 27) 1,none,0,0⟩,
 ⟨(some 34),.extract (.t 27) 2,none,0,0⟩,
 ⟨(some 8),.alloc [(.own [] .full),(.d (.sc (.int .i64 0)))],none,0,0⟩,
 ⟨none,.store 2 (.t 8) (.t 32),none,0,0⟩,
 ⟨(some 9),.mov (.t 33),none,0,0⟩,
 ⟨(some 7),.mov (.t 34),none,0,0⟩] false)
 (.seq
 (.seq
 (.region [⟨(some 35),.mov (.t 7),none,0,0⟩,
 ⟨(some 36),.bin .eql (.t 35) (.c (.d (.sc (.int .i64 0)))),none,0,0⟩,
 ⟨(some 37),.mov (.t 36),none,0,0⟩,
 ⟨(some 38),.mov (.t 9),(some (37,true)),0,0⟩,
 ⟨(some 39),.fieldAddr 0 (.t 8),(some (37,true)),0,0⟩,
 ⟨(some 40),.load 1 false (.t 39),(some (37,true)),0,0⟩,
 ⟨(some 41),.len (.t 40),(some (37,true)),0,0⟩,
 ⟨(some 42),.fieldAddr 1 (.t 8),(some (37,true)),0,0⟩,
 ⟨(some 43),.load 1 false (.t 42),(some (37,true)),0,0⟩,
 ⟨(some 44),.bin .sub (.t 41) (.t 43),(some (37,true)),0,0⟩,
 ⟨(some 45),.conv .u64 (.t 44),(some (37,true)),0,0⟩,
 ⟨(some 46),.bin .gtr (.t 38) (.t 45),(some (37,true)),0,0⟩,
 ⟨(some 47),.pick (.t 37) (.t 46) (.c (.d (.sc (.bool false)))),none,0,0⟩] false)
 (.cond (.t 47)
 (.region [⟨(some 7),.mov (.c (.d (.sc (.int .i64 24)))),none,0,0⟩] false)
 .skip))
 (.seq
 (.seq
 (.region [⟨(some 48),.mov (.t 7),none,0,0⟩,
 ⟨(some 49),.bin .neq (.t 48) (.c (.d (.sc (.int .i64 0)))),none,0,0⟩] false)
 (.cond (.t 49)
 (.seq
 (.region [⟨(some 50),.build [(.own [] .full),(.d (.sc (.int .i64 0)))] [],none,0,0⟩,
 ⟨(some 51),.mov (.t 7),none,0,0⟩,
 ⟨none,.store 2 (.t 4) (.t 50),none,0,0⟩,
 ⟨(some 5),.mov (.c (.d (.sc (.string ⟨#[]⟩)))),none,0,0⟩,
 ⟨(some 6),.mov (.t 51),none,0,0⟩] false)
 .ret)
 .skip))
 (.seq
 (.region [⟨(some 52),.fieldAddr 0 (.t 8),none,0,0⟩,
 ⟨(some 53),.load 1 false (.t 52),none,0,0⟩,
 ⟨(some 54),.fieldAddr 1 (.t 8),none,0,0⟩,
 ⟨(some 55),.load 1 false (.t 54),none,0,0⟩,
 ⟨(some 56),.fieldAddr 1 (.t 8),none,0,0⟩,
 ⟨(some 57),.load 1 false (.t 56),none,0,0⟩,
 ⟨(some 58),.mov (.t 9),none,0,0⟩,
 ⟨(some 59),.conv .i64 (.t 58),none,0,0⟩,
 ⟨(some 60),.bin .add (.t 57) (.t 59),none,0,0⟩,
 ⟨(some 61),.slice 1 (.t 53) (some (.t 55)) (some (.t 60)) none,none,0,0⟩,
 ⟨(some 62),.b2s (.t 61),none,0,0⟩,
 ⟨(some 10),.mov (.t 62),none,0,0⟩] false)
 (.seq
 (.region [⟨(some 63),.fieldAddr 1 (.t 8),none,0,0⟩,
 ⟨(some 64),.load 1 false (.t 63),none,0,0⟩,
 ⟨(some 65),.mov (.t 9),none,0,0⟩,
 ⟨(some 66),.conv .i64 (.t 65),none,0,0⟩,
 ⟨(some 67),.bin .add (.t 64) (.t 66),none,0,0⟩,
 ⟨(some 68),.fieldAddr 1 (.t 8),none,0,0⟩,
 ⟨none,.store 1 (.t 68) (.t 67),none,0,0⟩] false)
 (.seq
 (.region [⟨(some 69),.load 2 true (.t 8),none,0,0⟩,
 ⟨(some 70),.mov (.t 10),none,0,0⟩,
 ⟨none,.store 2 (.t 4) (.t 69),none,0,0⟩,
 ⟨(some 5),.mov (.t 70),none,0,0⟩,
 ⟨(some 6),.mov (.c (.d (.sc (.int .i64 0)))),none,0,0⟩] false)
 .ret)))))))))),false⟩
def t72:AFn:=⟨1,24,[.cell 2 2 true,.t 3,.t 4],
 (.seq
 (.region [⟨(some 1),.box (.t 0),none,0,0⟩,
 ⟨(some 2),.alloc [(.own [] .full),(.d (.sc (.int .i64 0)))],none,0,0⟩,
 ⟨(some 3),.mov (.c (.d (.sc (.int .i64 0)))),none,0,0⟩,
 ⟨(some 4),.mov (.c (.d (.sc (.int .i64 0)))),none,0,0⟩] false)
 (.seq
 (.region [⟨(some 9),.load 2 true (.t 1),none,0,0⟩,
 ⟨(some 10),.call 68 [(.t 9),(.c (.d (.sc (.int .u64 18446744073709551615))))],none,0,0⟩,
 ⟨(some 8),.mov (.t 10),none,0,0⟩,
 ⟨(some 11),.extract (.t 8) 0,none,0,0⟩,
 ⟨(some 12),.extract (.t 8) 1,none,0,0⟩,
 ⟨(some 13),.extract (.t 8) 2,none,0,0⟩,
 ⟨(some 5),.alloc [(.own [] .full),(.d (.sc (.int .i64 0)))],none,0,0⟩,
 ⟨none,.store 2 (.t 5) (.t 11),none,0,0⟩,
 ⟨(some 6),.mov (.t 12),none,0,0⟩,
 ⟨(some 7),.mov (.t 13),none,0,0⟩] false)
 (.seq
 (.region [⟨(some 14),.load 2 true (.t 5),none,0,0⟩,
 ⟨(some 15),.mov (.t 6),none,0,0⟩,
 ⟨(some 16),.bin .shr (.t 15) (.c (.d (.sc (.int .u64 1)))),none,0,0⟩,
 ⟨(some 17),.conv .i64 (.t 16),none,0,0⟩,
 ⟨(some 18),.mov (.t 6),none,0,0⟩,
 ⟨(some 19),.bin .and (.t 18) (.c (.d (.sc (.int .u64 1)))),none,0,0⟩,
 ⟨(some 20),.conv .i64 (.t 19),none,0,0⟩,
 ⟨(some 21),.un .neg (.t 20),none,0,0⟩,
 ⟨(some 22),.bin .xor (.t 17) (.t 21),none,0,0⟩,
 ⟨(some 23),.mov (.t 7),none,0,0⟩,
 ⟨none,.store 2 (.t 2) (.t 14),none,0,0⟩,
 ⟨(some 3),.mov (.t 22),none,0,0⟩,
 ⟨(some 4),.mov (.t 23),none,0,0⟩] false)
 .ret))),false⟩
def t73:AFn:=⟨1,115,[.cell 2 2 true,.cell 3 4 true,.t 4],
 (.seq
 (.region [⟨(some 1),.box (.t 0),none,0,0⟩,
 ⟨(some 2),.alloc [(.own [] .full),(.d (.sc (.int .i64 0)))],none,0,0⟩,
 ⟨(some 3),.alloc [(.d (.sc (.int .u8 0))),(.d (.sc (.int .i64 0))),(.d (.sc (.int .i64 0))),(.d (.sc (.int .i64 0)))],none,0,0⟩,
 ⟨(some 4),.mov (.c (.d (.sc (.int .i64 0)))),none,0,0⟩] false)
 (.seq
 (.region [⟨(some 5),.mov (.c (.clo 95 [])),none,0,0⟩] false)
 (.seq
 (.region [⟨(some 16),.load 2 true (.t 1),none,0,0⟩,
 ⟨(some 17),.callF 96 [(.t 16)],none,0,0⟩,
 ⟨(some 15),.mov (.t 17),none,0,0⟩,
 ⟨(some 18),.extract (.t 15) 0,none,0,0⟩,
 ⟨(some 19),.extract (.t 15) 1,none,0,0⟩,
 ⟨(some 6),.mov (.t 18),none,0,0⟩,
 ⟨(some 7),.mov (.t 19),none,0,0⟩] false)
 (.seq
 (.seq
 (.region [⟨(some 20),.mov (.t 7),none,0,0⟩,
 ⟨(some 21),.bin .neq (.t 20) (.c (.d (.sc (.int .i64 0)))),none,0,0⟩] false)
 (.cond (.t 21)
 (.seq
 (.region [⟨(some 22),.mov (.t 5),none,0,0⟩,
 ⟨(some 23),.mov (.t 7),none,0,0⟩,
 ⟨(some 24),.callv (.t 22) [(.t 23)],none,0,0⟩,
 ⟨(some 25),.extract (.t 24) 0,none,0,0⟩,
 ⟨(some 26),.extract (.t 24) 1,none,0,0⟩,
 ⟨(some 27),.extract (.t 24) 2,none,0,0⟩,
 ⟨none,.store 2 (.t 2) (.t 25),none,0,0⟩,
 ⟨none,.store 4 (.t 3) (.t 26),none,0,0⟩,
 ⟨(some 4),.mov (.t 27),none,0,0⟩] false)
 .ret)
 .skip))
 (.seq
 (.seq
 (.region [⟨(some 28),.mov (.t 6),none,0,0⟩,
 ⟨(some 29),.bin .eql (.t 28) (.c (.d (.sc (.int .i64 0)))),none,0,0⟩] false)
 (.cond (.t 29)
 (.seq
 (.region [⟨(some 30),.mov (.t 5),none,0,0⟩,
 ⟨(some 31),.callv (.t 30) [(.c (.d (.sc (.int .i64 24))))],none,0,0⟩,
 ⟨(some 32),.extract (.t 31) 0,none,0,0⟩,
 ⟨(some 33),.extract (.t 31) 1,none,0,0⟩,
 ⟨(some 34),.extract (.t 31) 2,none,0,0⟩,
 ⟨none,.store 2 (.t 2) (.t 32),none,0,0⟩,
 ⟨none,.store 4 (.t 3) (.t 33),none,0,0⟩,
 ⟨(some 4),.mov (.t 34),none,0,0⟩] false)
 .ret)
 .skip))
 (.seq
 (.region [⟨(some 35),.fieldAddr 0 (.t 1),none,0,0⟩,
 ⟨(some 36),.load 1 false (.t 35),none,0,0⟩,
 ⟨(some 37),.fieldAddr 1 (.t 1),none,0,0⟩,
 ⟨(some 38),.load 1 false (.t 37),none,0,0⟩,
 ⟨(some 39),.indexAddr 1 (.t 36) (.t 38),none,0,0⟩,
 ⟨(some 40),.load 1 false (.t 39),none,0,0⟩,
 ⟨(some 41),.build [(.d (.sc (.int .u8 0))),(.d (.sc (.int .i64 0))),(.d (.sc (.int .i64 0))),(.d (.sc (.int .i64 0)))] [(0,1,(.t 40))],none,0,0⟩,
 ⟨(some 8),.alloc [(.d (.sc (.int .u8 0))),(.d (.sc (.int .i64 0))),(.d (.sc (.int .i64 0))),(.d (.sc (.int .i64 0)))],none,0,0⟩,
 ⟨none,.store 4 (.t 8) (.t 41),none,0,0⟩] false)
 (.seq
 (.region [⟨(some 42),.fieldAddr 1 (.t 1),none,0,0⟩,
 ⟨(some 43),.load 1 false (.t 42),none,0,0⟩,
 ⟨(some 44),.bin .add (.t 43) (.c (.d (.sc (.int .i64 1)))),none,0,0⟩,
 ⟨(some 45),.fieldAddr 1 (.t 1),none,0,0⟩,
 ⟨none,.store 1 (.t 45) (.t 44),none,0,0⟩] false)
 (.seq
 (.region [⟨(some 47),.fieldAddr 0 (.t 8),none,0,0⟩,
 ⟨(some 48),.load 1 false (.t 47),none,0,0⟩,
 ⟨(some 49),.callF 83 [(.t 48)],none,0,0⟩,
 ⟨(some 46),.mov (.t 49),none,0,0⟩,
 ⟨(some 50),.extract (.t 46) 0,none,0,0⟩,
 ⟨(some 51),.extract (.t 46) 1,none,0,0⟩,
 ⟨(some 9),.alloc [(.d (.sc (.int .i64 0))),(.d (.sc (.int .i64 0))),(.d (.sc (.bool false))),(.d (.sc (.bool false))),(.d (.sc (.int .i64 0))),(.d (.sc (.int .i64 0))),(.d (.sc (.bool false))),(.d (.sc (.bool false))),(.d (.sc (.int .i64 0))),(.d (.sc (.int .i64 0))),(.d (.sc (.bool false))),(.d (.sc (.bool false)))],none,0,0⟩,
 ⟨none,.store 12 (.t 9) (.t 50),none,0,0⟩,
 ⟨(some 10),.mov (.t 51),none,0,0⟩] false)
 (.seq
 (.seq
 (.region [⟨(some 52),.mov (.t 10),none,0,0⟩,
 ⟨(some 53),.bin .lss (.t 52) (.c (.d (.sc (.int .i64 0)))),none,0,0⟩] false)
 (.cond (.t 53)
 (.seq
 (.region [⟨(some 54),.mov (.t 5),none,0,0⟩,
 ⟨(some 55),.callv (.t 54) [(.c (.d (.sc (.int .i64 12))))],none,0,0⟩,
 ⟨(some 56),.extract (.t 55) 0,none,0,0⟩,
 ⟨(some 57),.extract (.t 55) 1,none,0,0⟩,
 ⟨(some 58),.extract (.t 55) 2,none,0,0⟩,
 ⟨none,.store 2 (.t 2) (.t 56),none,0,0⟩,
 ⟨none,.store 4 (.t 3) (.t 57),none,0,0⟩,
 ⟨(some 4),.mov (.t 58),none,0,0⟩] false)
 .ret)
 .skip))
 (.seq
 (.region [⟨(some 59),.fieldAddr 1 (.t 8),none,0,0⟩,
 ⟨(some 60),.fieldAddr 2 (.t 8),none,0,0⟩,
 ⟨(some 61),.fieldAddr 3 (.t 8),none,0,0⟩,
 ⟨(some 62),.build [(.d (.sc (.pointer none))),(.d (.sc (.pointer none))),(.d (.sc (.pointer none)))] [(0,1,(.t 59)),(1,1,(.t 60)),(2,1,(.t 61))],none,0,0⟩,
 ⟨(some 11),.alloc [(.d (.sc (.pointer none))),(.d (.sc (.pointer none))),(.d (.sc (.pointer none)))],none,0,0⟩,
 ⟨none,.store 3 (.t 11) (.t 62),none,0,0⟩] false)
 (.seq
 (.seq
 (.region [⟨(some 63),.mov (.t 10),none,0,0⟩,
 ⟨(some 64),.mov (.c (.d (.sc (.int .i64 0)))),none,0,0⟩] false)
 (.block 0
 (.loop
 (.seq
 (.region [⟨(some 65),.bin .lss (.t 64) (.t 63),none,0,0⟩] false)
 (.seq
 (.cond (.t 65)
 .skip
 (.exit 0))
 (.seq
 (.block 1
 (.seq
 (.region [⟨(some 66),.mov (.t 64),none,0,0⟩,
 ⟨(some 12),.mov (.t 66),none,0,0⟩] false)
 (.seq
 (.region [⟨(some 13),.mov (.c (.d (.sc (.int .u64 0)))),none,0,0⟩] false)
 (.seq
 (.seq
 (.region [⟨(some 67),.mov (.t 12),none,0,0⟩,
 ⟨(some 68),.indexArr 3 4 (.t 9) (.t 67),none,0,0⟩,
 ⟨(some 69),.fieldAddr 0 (.t 68),none,0,0⟩,
 ⟨(some 70),.load 1 false (.t 69),none,0,0⟩,
 ⟨(some 71),.bin .lss (.t 70) (.c (.d (.sc (.int .i64 0)))),none,0,0⟩] false)
 (.cond (.t 71)
 (.seq
 (.region [⟨(some 14),.mov (.c (.d (.sc (.int .i64 0)))),none,0,0⟩] false)
 (.seq
 (.region [⟨(some 73),.load 2 true (.t 1),none,0,0⟩,
 ⟨(some 74),.call 72 [(.t 73)],none,0,0⟩,
 ⟨(some 72),.mov (.t 74),none,0,0⟩,
 ⟨(some 75),.extract (.t 72) 0,none,0,0⟩,
 ⟨(some 76),.extract (.t 72) 1,none,0,0⟩,
 ⟨(some 77),.extract (.t 72) 2,none,0,0⟩,
 ⟨none,.store 2 (.t 1) (.t 75),none,0,0⟩,
 ⟨(some 14),.mov (.t 76),none,0,0⟩,
 ⟨(some 7),.mov (.t 77),none,0,0⟩] false)
 (.region [⟨(some 78),.mov (.t 12),none,0,0⟩,
 ⟨(some 79),.indexArr 3 1 (.t 11) (.t 78),none,0,0⟩,
 ⟨(some 80),.load 1 false (.t 79),none,0,0⟩,
 ⟨(some 81),.mov (.t 14),none,0,0⟩,
 ⟨(some 82),.nilCheck (.t 80),none,0,0⟩,
 ⟨none,.store 1 (.t 82) (.t 81),none,0,0⟩] false)))
 (.seq
 (.region [⟨(some 84),.load 2 true (.t 1),none,0,0⟩,
 ⟨(some 85),.call 68 [(.t 84),(.c (.d (.sc (.int .u64 18446744073709551615))))],none,0,0⟩,
 ⟨(some 83),.mov (.t 85),none,0,0⟩,
 ⟨(some 86),.extract (.t 83) 0,none,0,0⟩,
 ⟨(some 87),.extract (.t 83) 1,none,0,0⟩,
 ⟨(some 88),.extract (.t 83) 2,none,0,0⟩,
 ⟨none,.store 2 (.t 1) (.t 86),none,0,0⟩,
 ⟨(some 13),.mov (.t 87),none,0,0⟩,
 ⟨(some 7),.mov (.t 88),none,0,0⟩] false)
 (.region [⟨(some 89),.mov (.t 12),none,0,0⟩,
 ⟨(some 90),.indexArr 3 1 (.t 11) (.t 89),none,0,0⟩,
 ⟨(some 91),.load 1 false (.t 90),none,0,0⟩,
 ⟨(some 92),.mov (.t 13),none,0,0⟩,
 ⟨(some 93),.mini (.t 92) (.c (.d (.sc (.int .u64 1048576)))),none,0,0⟩,
 ⟨(some 94),.conv .i64 (.t 93),none,0,0⟩,
 ⟨(some 95),.nilCheck (.t 91),none,0,0⟩,
 ⟨none,.store 1 (.t 95) (.t 94),none,0,0⟩] false))))
 (.seq
 (.region [⟨(some 96),.mov (.t 7),none,0,0⟩,
 ⟨(some 97),.bin .neq (.t 96) (.c (.d (.sc (.int .i64 0)))),none,0,0⟩] false)
 (.cond (.t 97)
 (.seq
 (.region [⟨(some 98),.mov (.t 5),none,0,0⟩,
 ⟨(some 99),.mov (.t 7),none,0,0⟩,
 ⟨(some 100),.callv (.t 98) [(.t 99)],none,0,0⟩,
 ⟨(some 101),.extract (.t 100) 0,none,0,0⟩,
 ⟨(some 102),.extract (.t 100) 1,none,0,0⟩,
 ⟨(some 103),.extract (.t 100) 2,none,0,0⟩,
 ⟨none,.store 2 (.t 2) (.t 101),none,0,0⟩,
 ⟨none,.store 4 (.t 3) (.t 102),none,0,0⟩,
 ⟨(some 4),.mov (.t 103),none,0,0⟩] false)
 .ret)
 .skip))))))
 (.region [⟨(some 104),.bin .add (.t 64) (.c (.d (.sc (.int .i64 1)))),none,0,0⟩,
 ⟨(some 64),.mov (.t 104),none,0,0⟩] false)))))))
 (.seq
 (.seq
 (.region [⟨(some 105),.load 4 true (.t 8),none,0,0⟩,
 ⟨(some 106),.callF 80 [(.t 105)],none,0,0⟩,
 ⟨(some 107),.bin .neq (.t 106) (.c (.d (.sc (.int .i64 0)))),none,0,0⟩] false)
 (.cond (.t 107)
 (.seq
 (.region [⟨(some 108),.mov (.t 5),none,0,0⟩,
 ⟨(some 109),.callv (.t 108) [(.c (.d (.sc (.int .i64 12))))],none,0,0⟩,
 ⟨(some 110),.extract (.t 109) 0,none,0,0⟩,
 ⟨(some 111),.extract (.t 109) 1,none,0,0⟩,
 ⟨(some 112),.extract (.t 109) 2,none,0,0⟩,
 ⟨none,.store 2 (.t 2) (.t 110),none,0,0⟩,
 ⟨none,.store 4 (.t 3) (.t 111),none,0,0⟩,
 ⟨(some 4),.mov (.t 112),none,0,0⟩] false)
 .ret)
 .skip))
 (.seq
 (.region [⟨(some 113),.load 2 true (.t 1),none,0,0⟩,
 ⟨(some 114),.load 4 true (.t 8),none,0,0⟩,
 ⟨none,.store 2 (.t 2) (.t 113),none,1,0⟩,
 ⟨none,.store 4 (.t 3) (.t 114),none,7,0⟩,
 ⟨(some 4),.mov (.c (.d (.sc (.int .i64 0)))),none,15,0⟩] true)
 .ret))))))))))))),false⟩
def t74:AFn:=⟨2,28,[.t 4],
 (.seq
 (.region [⟨(some 4),.mov (.c (.own [] .full)),none,0,0⟩] false)
 (.seq
 (.seq
 (.region [⟨(some 6),.mov (.t 0),none,0,0⟩,
 ⟨(some 7),.nilCheck (.t 6),none,0,0⟩,
 ⟨(some 8),.fieldAddr 2 (.t 7),none,0,0⟩,
 ⟨(some 9),.load 1 false (.t 8),none,0,0⟩,
 ⟨(some 10),.bin .neq (.t 9) (.c (.d (.sc (.int .i64 0)))),none,0,0⟩] false)
 (.cond (.t 10)
 (.seq
 (.region [⟨(some 4),.mov (.c (.own [] .full)),none,0,0⟩] false)
 .ret)
 .skip))
 (.seq
 (.region [⟨(some 5),.mov (.c (.own [] .full)),none,0,0⟩] false)
 (.seq
 (.region [⟨(some 12),.mov (.t 0),none,0,0⟩,
 ⟨(some 13),.mov (.t 0),none,0,0⟩,
 ⟨(some 14),.mov (.t 0),none,0,0⟩,
 ⟨(some 15),.nilCheck (.t 14),none,0,0⟩,
 ⟨(some 16),.fieldAddr 0 (.t 15),none,0,0⟩,
 ⟨(some 17),.load 2 true (.t 16),none,0,0⟩,
 ⟨(some 18),.mov (.t 1),none,0,0⟩,
 ⟨(some 19),.call 97 [(.t 17),(.t 18)],none,0,0⟩,
 ⟨(some 11),.mov (.t 19),none,0,0⟩,
 ⟨(some 20),.extract (.t 11) 0,none,0,0⟩,
 ⟨(some 21),.extract (.t 11) 1,none,0,0⟩,
 ⟨(some 22),.extract (.t 11) 2,none,0,0⟩,
 ⟨(some 23),.nilCheck (.t 12),none,0,0⟩,
 ⟨(some 24),.fieldAddr 0 (.t 23),none,0,0⟩,
 ⟨none,.store 2 (.t 24) (.t 20),none,0,0⟩,
 ⟨(some 5),.mov (.t 21),none,0,0⟩,
 ⟨(some 25),.nilCheck (.t 13),none,0,0⟩,
 ⟨(some 26),.fieldAddr 2 (.t 25),none,0,0⟩,
 ⟨none,.store 1 (.t 26) (.t 22),none,0,0⟩] false)
 (.seq
 (.region [⟨(some 27),.mov (.t 5),none,0,0⟩,
 ⟨(some 4),.mov (.t 27),none,0,0⟩] false)
 .ret))))),false⟩
def t75:AFn:=⟨2,118,[.t 4],
 (.seq
 (.region [⟨(some 4),.mov (.c (.d (.sc (.bool false)))),none,0,0⟩] false)
 (.seq
 (.region [⟨(some 10),.mov (.t 0),none,0,0⟩,
 ⟨(some 11),.mov (.t 1),none,0,0⟩,
 ⟨(some 12),.indexAddr 4 (.t 10) (.t 11),none,0,0⟩,
 ⟨(some 13),.load 4 true (.t 12),none,0,0⟩,
 ⟨(some 5),.alloc [(.d (.sc (.int .u8 0))),(.d (.sc (.int .i64 0))),(.d (.sc (.int .i64 0))),(.own [] .full)],none,0,0⟩,
 ⟨none,.store 4 (.t 5) (.t 13),none,0,0⟩] false)
 (.seq
 (.region [⟨(some 6),.mov (.c (.clo 98 [])),none,0,0⟩] false)
 (.seq
 (.seq
 (.region [⟨(some 14),.fieldAddr 0 (.t 5),none,0,0⟩,
 ⟨(some 15),.load 1 false (.t 14),none,0,0⟩] false)
 (.block 0
 (.seq
 (.seq
 (.region [⟨(some 17),.bin .eql (.t 15) (.c (.d (.sc (.int .u8 1)))),none,0,0⟩,
 ⟨(some 16),.mov (.t 17),none,0,0⟩] false)
 (.cond (.t 16)
 .skip
 (.seq
 (.region [⟨(some 18),.bin .eql (.t 15) (.c (.d (.sc (.int .u8 2)))),none,0,0⟩,
 ⟨(some 16),.mov (.t 18),none,0,0⟩] false)
 (.cond (.t 16)
 .skip
 (.region [⟨(some 19),.bin .eql (.t 15) (.c (.d (.sc (.int .u8 3)))),none,0,0⟩,
 ⟨(some 16),.mov (.t 19),none,0,0⟩] false)))))
 (.cond (.t 16)
 (.seq
 (.region [⟨(some 20),.fieldAddr 1 (.t 5),none,0,0⟩,
 ⟨(some 21),.load 1 false (.t 20),none,0,0⟩,
 ⟨(some 22),.fieldAddr 2 (.t 5),none,0,0⟩,
 ⟨(some 23),.load 1 false (.t 22),none,0,0⟩,
 ⟨(some 24),.fieldAddr 3 (.t 5),none,0,0⟩,
 ⟨(some 25),.load 1 false (.t 24),none,0,0⟩,
 ⟨(some 26),.len (.t 25),none,0,0⟩,
 ⟨(some 27),.buildSlice 1 3 [(.sc (.int .i64 0))] [(0,(.t 21)),(1,(.t 23)),(2,(.t 26))],none,0,2⟩,
 ⟨(some 28),.callF 99 [(.t 27)],none,0,0⟩,
 ⟨(some 4),.mov (.t 28),none,0,0⟩] false)
 .ret)
 (.seq
 (.seq
 (.region [⟨(some 30),.bin .eql (.t 15) (.c (.d (.sc (.int .u8 4)))),none,0,0⟩,
 ⟨(some 29),.mov (.t 30),none,0,0⟩] false)
 (.cond (.t 29)
 .skip
 (.region [⟨(some 31),.bin .eql (.t 15) (.c (.d (.sc (.int .u8 7)))),none,0,0⟩,
 ⟨(some 29),.mov (.t 31),none,0,0⟩] false)))
 (.cond (.t 29)
 (.seq
 (.region [⟨(some 32),.mov (.t 6),none,0,0⟩,
 ⟨(some 33),.fieldAddr 1 (.t 5),none,0,0⟩,
 ⟨(some 34),.load 1 false (.t 33),none,0,0⟩,
 ⟨(some 35),.mov (.t 0),none,0,0⟩,
 ⟨(some 36),.len (.t 35),none,0,0⟩,
 ⟨(some 37),.callv (.t 32) [(.t 34),(.t 36)],none,0,0⟩,
 ⟨(some 38),.mov (.t 37),none,0,0⟩,
 ⟨(some 39),.fieldAddr 2 (.t 5),(some (38,true)),0,0⟩,
 ⟨(some 40),.load 1 false (.t 39),(some (38,true)),0,0⟩,
 ⟨(some 41),.fieldAddr 3 (.t 5),(some (38,true)),0,0⟩,
 ⟨(some 42),.load 1 false (.t 41),(some (38,true)),0,0⟩,
 ⟨(some 43),.len (.t 42),(some (38,true)),0,0⟩,
 ⟨(some 44),.buildSlice 1 2 [(.sc (.int .i64 0))] [(0,(.t 40)),(1,(.t 43))],(some (38,true)),0,2⟩,
 ⟨(some 45),.callF 99 [(.t 44)],(some (38,true)),0,0⟩,
 ⟨(some 46),.pick (.t 38) (.t 45) (.c (.d (.sc (.bool false)))),none,0,0⟩,
 ⟨(some 4),.mov (.t 46),none,0,0⟩] false)
 .ret)
 (.seq
 (.region [⟨(some 48),.bin .eql (.t 15) (.c (.d (.sc (.int .u8 6)))),none,0,0⟩,
 ⟨(some 47),.mov (.t 48),none,0,0⟩] false)
 (.cond (.t 47)
 (.seq
 (.region [⟨(some 49),.mov (.t 6),none,0,0⟩,
 ⟨(some 50),.fieldAddr 1 (.t 5),none,0,0⟩,
 ⟨(some 51),.load 1 false (.t 50),none,0,0⟩,
 ⟨(some 52),.mov (.t 1),none,0,0⟩,
 ⟨(some 53),.callv (.t 49) [(.t 51),(.t 52)],none,0,0⟩,
 ⟨(some 54),.mov (.t 53),none,0,0⟩,
 ⟨(some 55),.mov (.t 6),(some (54,true)),0,0⟩,
 ⟨(some 56),.fieldAddr 2 (.t 5),(some (54,true)),0,0⟩,
 ⟨(some 57),.load 1 false (.t 56),(some (54,true)),0,0⟩,
 ⟨(some 58),.bin .sub (.t 57) (.c (.d (.sc (.int .i64 1)))),(some (54,true)),0,0⟩,
 ⟨(some 59),.callv (.t 55) [(.t 58),(.c (.d (.sc (.int .i64 16))))],(some (54,true)),0,0⟩,
 ⟨(some 60),.pick (.t 54) (.t 59) (.c (.d (.sc (.bool false)))),none,0,0⟩,
 ⟨(some 61),.mov (.t 60),none,0,0⟩,
 ⟨(some 62),.fieldAddr 3 (.t 5),(some (61,true)),0,0⟩,
 ⟨(some 63),.load 1 false (.t 62),(some (61,true)),0,0⟩,
 ⟨(some 64),.len (.t 63),(some (61,true)),0,0⟩,
 ⟨(some 65),.buildSlice 1 1 [(.sc (.int .i64 0))] [(0,(.t 64))],(some (61,true)),0,2⟩,
 ⟨(some 66),.callF 99 [(.t 65)],(some (61,true)),0,0⟩,
 ⟨(some 67),.pick (.t 61) (.t 66) (.c (.d (.sc (.bool false)))),none,0,0⟩,
 ⟨(some 4),.mov (.t 67),none,0,0⟩] false)
 .ret)
 (.seq
 (.region [⟨(some 69),.bin .eql (.t 15) (.c (.d (.sc (.int .u8 5)))),none,0,0⟩,
 ⟨(some 68),.mov (.t 69),none,0,0⟩] false)
 (.cond (.t 68)
 (.seq
 (.region [⟨(some 70),.mkSet,none,0,0⟩,
 ⟨(some 7),.mov (.t 70),none,0,0⟩] false)
 (.seq
 (.seq
 (.region [⟨(some 71),.fieldAddr 3 (.t 5),none,0,0⟩,
 ⟨(some 72),.load 1 false (.t 71),none,0,0⟩,
 ⟨(some 73),.len (.t 72),none,0,0⟩,
 ⟨(some 74),.mov (.c (.d (.sc (.int .i64 0)))),none,0,0⟩] false)
 (.block 1
 (.loop
 (.seq
 (.region [⟨(some 75),.bin .lss (.t 74) (.t 73),none,0,0⟩] false)
 (.seq
 (.cond (.t 75)
 .skip
 (.exit 1))
 (.seq
 (.block 2
 (.seq
 (.region [⟨(some 76),.indexAddr 2 (.t 72) (.t 74),none,0,0⟩,
 ⟨(some 77),.load 2 true (.t 76),none,0,0⟩,
 ⟨(some 9),.alloc [(.d (.sc (.string ⟨#[]⟩))),(.d (.sc (.int .i64 0)))],none,0,0⟩,
 ⟨none,.store 2 (.t 9) (.t 77),none,0,0⟩] false)
 (.seq
 (.seq
 (.region [⟨(some 78),.fieldAddr 0 (.t 9),none,0,0⟩,
 ⟨(some 79),.load 1 false (.t 78),none,0,0⟩,
 ⟨(some 80),.callF 78 [(.t 79)],none,0,0⟩,
 ⟨(some 81),.un .not (.t 80),none,0,0⟩,
 ⟨(some 82),.mov (.t 81),none,0,0⟩,
 ⟨(some 83),.mov (.t 7),(some (82,false)),0,0⟩,
 ⟨(some 84),.fieldAddr 0 (.t 9),(some (82,false)),0,0⟩,
 ⟨(some 85),.load 1 false (.t 84),(some (82,false)),0,0⟩,
 ⟨(some 86),.hasK (.t 83) (.t 85),(some (82,false)),0,0⟩,
 ⟨(some 87),.pick (.t 82) (.c (.d (.sc (.bool true)))) (.t 86),none,0,0⟩,
 ⟨(some 88),.mov (.t 87),none,0,0⟩,
 ⟨(some 89),.mov (.t 6),(some (88,false)),0,0⟩,
 ⟨(some 90),.fieldAddr 1 (.t 9),(some (88,false)),0,0⟩,
 ⟨(some 91),.load 1 false (.t 90),(some (88,false)),0,0⟩,
 ⟨(some 92),.mov (.t 1),(some (88,false)),0,0⟩,
 ⟨(some 93),.callv (.t 89) [(.t 91),(.t 92)],(some (88,false)),0,0⟩,
 ⟨(some 94),.un .not (.t 93),(some (88,false)),0,0⟩,
 ⟨(some 95),.pick (.t 88) (.c (.d (.sc (.bool true)))) (.t 94),none,0,0⟩] false)
 (.cond (.t 95)
 (.seq
 (.region [⟨(some 4),.mov (.c (.d (.sc (.bool false)))),none,0,0⟩] false)
 .ret)
 .skip))
 (.region [⟨(some 96),.mov (.t 7),none,0,0⟩,
 ⟨(some 97),.fieldAddr 0 (.t 9),none,0,0⟩,
 ⟨(some 98),.load 1 false (.t 97),none,0,0⟩,
 ⟨none,.addK (.t 96) (.t 98),none,0,0⟩] false))))
 (.region [⟨(some 99),.bin .add (.t 74) (.c (.d (.sc (.int .i64 1)))),none,0,0⟩,
 ⟨(some 74),.mov (.t 99),none,0,0⟩] false)))))))
 (.seq
 (.region [⟨(some 100),.fieldAddr 1 (.t 5),none,0,0⟩,
 ⟨(some 101),.load 1 false (.t 100),none,0,0⟩,
 ⟨(some 102),.fieldAddr 2 (.t 5),none,0,0⟩,
 ⟨(some 103),.load 1 false (.t 102),none,0,0⟩,
 ⟨(some 104),.buildSlice 1 2 [(.sc (.int .i64 0))] [(0,(.t 101)),(1,(.t 103))],none,0,2⟩,
 ⟨(some 105),.callF 99 [(.t 104)],none,0,0⟩,
 ⟨(some 106),.mov (.t 105),none,0,0⟩,
 ⟨(some 107),.fieldAddr 3 (.t 5),(some (106,true)),0,0⟩,
 ⟨(some 108),.load 1 false (.t 107),(some (106,true)),0,0⟩,
 ⟨(some 109),.len (.t 108),(some (106,true)),0,0⟩,
 ⟨(some 110),.bin .gtr (.t 109) (.c (.d (.sc (.int .i64 0)))),(some (106,true)),0,0⟩,
 ⟨(some 111),.pick (.t 106) (.t 110) (.c (.d (.sc (.bool false)))),none,0,0⟩,
 ⟨(some 112),.mov (.t 111),none,0,0⟩,
 ⟨(some 113),.fieldAddr 3 (.t 5),(some (112,true)),0,0⟩,
 ⟨(some 114),.load 1 false (.t 113),(some (112,true)),0,0⟩,
 ⟨(some 115),.len (.t 114),(some (112,true)),0,0⟩,
 ⟨(some 116),.bin .leq (.t 115) (.c (.d (.sc (.int .i64 8)))),(some (112,true)),0,0⟩,
 ⟨(some 117),.pick (.t 112) (.t 116) (.c (.d (.sc (.bool false)))),none,0,0⟩,
 ⟨(some 4),.mov (.t 117),none,0,0⟩] false)
 .ret)))
 .skip))))))))))
 (.seq
 (.region [⟨(some 4),.mov (.c (.d (.sc (.bool false)))),none,0,0⟩] false)
 .ret))))),false⟩
def t76:AFn:=⟨1,82,[.t 2],
 (.seq
 (.region [⟨(some 2),.mov (.c (.own [] .full)),none,0,0⟩] false)
 (.seq
 (.region [⟨(some 10),.mov (.t 0),none,0,0⟩,
 ⟨(some 11),.len (.t 10),none,0,0⟩,
 ⟨(some 12),.makeSlice 1 8 [(.sc (.int .i64 0))] (.t 11) (.t 11),none,0,0⟩,
 ⟨(some 3),.mov (.t 12),none,0,6⟩] false)
 (.seq
 (.seq
 (.region [⟨(some 13),.mov (.c (.d (.sc (.int .i64 0)))),none,0,0⟩] false)
 (.block 0
 (.loop
 (.seq
 (.region [⟨(some 14),.bin .lss (.t 13) (.c (.d (.sc (.int .i64 4)))),none,0,0⟩] false)
 (.seq
 (.cond (.t 14)
 .skip
 (.exit 0))
 (.seq
 (.block 1
 (.seq
 (.region [⟨(some 15),.mov (.t 0),none,0,0⟩,
 ⟨(some 16),.len (.t 15),none,0,0⟩,
 ⟨(some 17),.makeSlice 1 8 [(.sc (.int .i64 0))] (.t 16) (.t 16),none,0,1⟩,
 ⟨(some 4),.mov (.t 17),none,0,0⟩] false)
 (.seq
 (.seq
 (.region [⟨(some 18),.mov (.t 0),none,0,0⟩,
 ⟨(some 19),.len (.t 18),none,0,0⟩,
 ⟨(some 20),.mov (.c (.d (.sc (.int .i64 0)))),none,0,0⟩] false)
 (.block 2
 (.loop
 (.seq
 (.region [⟨(some 21),.bin .lss (.t 20) (.t 19),none,0,0⟩] false)
 (.seq
 (.cond (.t 21)
 .skip
 (.exit 2))
 (.seq
 (.block 3
 (.seq
 (.region [⟨(some 22),.mov (.t 20),none,0,0⟩,
 ⟨(some 23),.indexAddr 4 (.t 18) (.t 20),none,0,0⟩,
 ⟨(some 24),.load 4 true (.t 23),none,0,0⟩,
 ⟨(some 6),.alloc [(.d (.sc (.int .u8 0))),(.d (.sc (.int .i64 0))),(.d (.sc (.int .i64 0))),(.own [] .full)],none,0,0⟩,
 ⟨(some 5),.mov (.t 22),none,0,0⟩,
 ⟨none,.store 4 (.t 6) (.t 24),none,0,0⟩] false)
 (.seq
 (.region [⟨(some 7),.mov (.c (.d (.sc (.int .i64 1)))),none,0,0⟩] false)
 (.seq
 (.seq
 (.region [⟨(some 25),.fieldAddr 0 (.t 6),none,0,0⟩,
 ⟨(some 26),.load 1 false (.t 25),none,0,0⟩] false)
 (.block 4
 (.seq
 (.region [⟨(some 28),.bin .eql (.t 26) (.c (.d (.sc (.int .u8 4)))),none,0,0⟩,
 ⟨(some 27),.mov (.t 28),none,0,0⟩] false)
 (.cond (.t 27)
 (.region [⟨(some 29),.mov (.t 7),none,0,0⟩,
 ⟨(some 30),.mov (.t 3),none,0,0⟩,
 ⟨(some 31),.fieldAddr 1 (.t 6),none,0,0⟩,
 ⟨(some 32),.load 1 false (.t 31),none,0,0⟩,
 ⟨(some 33),.indexAddr 1 (.t 30) (.t 32),none,0,0⟩,
 ⟨(some 34),.load 1 false (.t 33),none,0,0⟩,
 ⟨(some 35),.bin .add (.t 29) (.t 34),none,0,0⟩,
 ⟨(some 7),.mov (.t 35),none,0,0⟩] false)
 (.seq
 (.region [⟨(some 37),.bin .eql (.t 26) (.c (.d (.sc (.int .u8 7)))),none,0,0⟩,
 ⟨(some 36),.mov (.t 37),none,0,0⟩] false)
 (.cond (.t 36)
 (.region [⟨(some 38),.mov (.t 7),none,0,0⟩,
 ⟨(some 39),.mov (.t 3),none,0,0⟩,
 ⟨(some 40),.fieldAddr 1 (.t 6),none,0,0⟩,
 ⟨(some 41),.load 1 false (.t 40),none,0,0⟩,
 ⟨(some 42),.indexAddr 1 (.t 39) (.t 41),none,0,0⟩,
 ⟨(some 43),.load 1 false (.t 42),none,0,0⟩,
 ⟨(some 44),.bin .mul (.c (.d (.sc (.int .i64 16)))) (.t 43),none,0,0⟩,
 ⟨(some 45),.bin .add (.t 38) (.t 44),none,0,0⟩,
 ⟨(some 7),.mov (.t 45),none,0,0⟩] false)
 (.seq
 (.region [⟨(some 47),.bin .eql (.t 26) (.c (.d (.sc (.int .u8 6)))),none,0,0⟩,
 ⟨(some 46),.mov (.t 47),none,0,0⟩] false)
 (.cond (.t 46)
 (.region [⟨(some 48),.mov (.t 7),none,0,0⟩,
 ⟨(some 49),.fieldAddr 2 (.t 6),none,0,0⟩,
 ⟨(some 50),.load 1 false (.t 49),none,2,0⟩,
 ⟨(some 51),.mov (.t 4),none,0,0⟩,
 ⟨(some 52),.fieldAddr 1 (.t 6),none,0,0⟩,
 ⟨(some 53),.load 1 false (.t 52),none,16,0⟩,
 ⟨(some 54),.indexAddr 1 (.t 51) (.t 53),none,56,0⟩,
 ⟨(some 55),.load 1 false (.t 54),none,120,0⟩,
 ⟨(some 56),.bin .mul (.t 50) (.t 55),none,254,0⟩,
 ⟨(some 57),.bin .add (.t 48) (.t 56),none,511,0⟩,
 ⟨(some 7),.mov (.t 57),none,1023,0⟩] true)
 .skip))))))))
 (.seq
 (.seq
 (.region [⟨(some 58),.fieldAddr 3 (.t 6),none,0,0⟩,
 ⟨(some 59),.load 1 false (.t 58),none,0,0⟩,
 ⟨(some 60),.len (.t 59),none,0,0⟩,
 ⟨(some 61),.mov (.c (.d (.sc (.int .i64 0)))),none,0,0⟩] false)
 (.block 5
 (.loop
 (.seq
 (.region [⟨(some 62),.bin .lss (.t 61) (.t 60),none,0,0⟩] false)
 (.seq
 (.cond (.t 62)
 .skip
 (.exit 5))
 (.seq
 (.block 6
 (.seq
 (.region [⟨(some 63),.indexAddr 2 (.t 59) (.t 61),none,0,0⟩,
 ⟨(some 64),.load 2 true (.t 63),none,0,0⟩,
 ⟨(some 9),.alloc [(.d (.sc (.string ⟨#[]⟩))),(.d (.sc (.int .i64 0)))],none,0,0⟩,
 ⟨none,.store 2 (.t 9) (.t 64),none,0,0⟩] false)
 (.region [⟨(some 65),.mov (.t 7),none,0,0⟩,
 ⟨(some 66),.mov (.t 4),none,0,0⟩,
 ⟨(some 67),.fieldAddr 1 (.t 9),none,0,0⟩,
 ⟨(some 68),.load 1 false (.t 67),none,0,0⟩,
 ⟨(some 69),.indexAddr 1 (.t 66) (.t 68),none,0,0⟩,
 ⟨(some 70),.load 1 false (.t 69),none,0,0⟩,
 ⟨(some 71),.bin .add (.t 65) (.t 70),none,0,0⟩,
 ⟨(some 7),.mov (.t 71),none,0,0⟩] false)))
 (.region [⟨(some 72),.bin .add (.t 61) (.c (.d (.sc (.int .i64 1)))),none,0,0⟩,
 ⟨(some 61),.mov (.t 72),none,0,0⟩] false)))))))
 (.region [⟨(some 73),.mov (.t 4),none,0,0⟩,
 ⟨(some 74),.mov (.t 5),none,0,0⟩,
 ⟨(some 75),.mov (.t 7),none,0,0⟩,
 ⟨(some 76),.mini (.t 75) (.c (.d (.sc (.int .i64 5001)))),none,0,0⟩,
 ⟨(some 77),.indexAddr 1 (.t 73) (.t 74),none,0,0⟩,
 ⟨none,.store 1 (.t 77) (.t 76),none,0,0⟩] false))))))
 (.region [⟨(some 78),.bin .add (.t 20) (.c (.d (.sc (.int .i64 1)))),none,0,0⟩,
 ⟨(some 20),.mov (.t 78),none,0,0⟩] false)))))))
 (.region [⟨(some 79),.mov (.t 4),none,0,0⟩,
 ⟨(some 3),.mov (.t 79),none,0,6⟩] false))))
 (.region [⟨(some 80),.bin .add (.t 13) (.c (.d (.sc (.int .i64 1)))),none,0,0⟩,
 ⟨(some 13),.mov (.t 80),none,0,0⟩] false)))))))
 (.seq
 (.region [⟨(some 81),.mov (.t 3),none,0,0⟩,
 ⟨(some 2),.mov (.t 81),none,0,0⟩] false)
 .ret)))),false⟩
def t77:AFn:=⟨2,30,[.t 4,.t 5],
 (.seq
 (.region [⟨(some 4),.mov (.c (.own [] .full)),none,0,0⟩,
 ⟨(some 5),.mov (.c (.d (.sc (.int .i64 0)))),none,0,0⟩] false)
 (.seq
 (.seq
 (.region [⟨(some 8),.mov (.t 0),none,0,0⟩,
 ⟨(some 9),.callF 51 [(.t 8)],none,0,0⟩,
 ⟨(some 6),.mov (.t 9),none,0,0⟩] false)
 (.seq
 (.region [⟨(some 10),.mov (.t 6),none,0,0⟩,
 ⟨(some 11),.bin .neq (.t 10) (.c (.d (.sc (.int .i64 0)))),none,0,0⟩] false)
 (.cond (.t 11)
 (.seq
 (.region [⟨(some 12),.mov (.t 6),none,0,0⟩,
 ⟨(some 4),.mov (.c (.own [] .full)),none,0,0⟩,
 ⟨(some 5),.mov (.t 12),none,0,0⟩] false)
 .ret)
 .skip)))
 (.seq
 (.seq
 (.region [⟨(some 13),.mov (.t 1),none,0,0⟩,
 ⟨(some 14),.bin .lss (.t 13) (.c (.d (.sc (.int .i64 0)))),none,0,0⟩,
 ⟨(some 15),.mov (.t 14),none,0,0⟩,
 ⟨(some 16),.mov (.t 1),(some (15,false)),0,0⟩,
 ⟨(some 17),.mov (.t 0),(some (15,false)),0,0⟩,
 ⟨(some 18),.len (.t 17),(some (15,false)),0,0⟩,
 ⟨(some 19),.bin .geq (.t 16) (.t 18),(some (15,false)),0,0⟩,
 ⟨(some 20),.pick (.t 15) (.c (.d (.sc (.bool true)))) (.t 19),none,0,0⟩] false)
 (.cond (.t 20)
 (.seq
 (.region [⟨(some 4),.mov (.c (.own [] .full)),none,0,0⟩,
 ⟨(some 5),.mov (.c (.d (.sc (.int .i64 2)))),none,0,0⟩] false)
 .ret)
 .skip))
 (.seq
 (.region [⟨(some 21),.mov (.t 0),none,0,0⟩,
 ⟨(some 22),.call 100 [(.t 21)],none,0,0⟩,
 ⟨(some 7),.mov (.t 22),none,0,0⟩] false)
 (.seq
 (.seq
 (.region [⟨(some 23),.mov (.t 7),none,0,0⟩,
 ⟨(some 24),.mov (.t 1),none,0,0⟩,
 ⟨(some 25),.indexAddr 2 (.t 23) (.t 24),none,0,0⟩,
 ⟨(some 26),.fieldAddr 0 (.t 25),none,0,0⟩,
 ⟨(some 27),.load 1 false (.t 26),none,0,0⟩,
 ⟨(some 28),.bin .gtr (.t 27) (.c (.d (.sc (.int .i64 256)))),none,0,0⟩] false)
 (.cond (.t 28)
 (.seq
 (.region [⟨(some 4),.mov (.c (.own [] .full)),none,0,0⟩,
 ⟨(some 5),.mov (.c (.d (.sc (.int .i64 16)))),none,0,0⟩] false)
 .ret)
 .skip))
 (.seq
 (.region [⟨(some 29),.mov (.t 7),none,0,0⟩,
 ⟨(some 4),.mov (.t 29),none,0,0⟩,
 ⟨(some 5),.mov (.c (.d (.sc (.int .i64 0)))),none,0,0⟩] false)
 .ret)))))),false⟩
def t78:AFn:=⟨1,47,[.t 2],
 (.seq
 (.region [⟨(some 2),.mov (.c (.d (.sc (.bool false)))),none,0,0⟩] false)
 (.seq
 (.seq
 (.region [⟨(some 5),.mov (.t 0),none,0,0⟩,
 ⟨(some 6),.lenS (.t 5),none,0,0⟩,
 ⟨(some 7),.bin .eql (.t 6) (.c (.d (.sc (.int .i64 0)))),none,0,0⟩,
 ⟨(some 8),.mov (.t 7),none,0,0⟩,
 ⟨(some 9),.mov (.t 0),(some (8,false)),0,0⟩,
 ⟨(some 10),.lenS (.t 9),(some (8,false)),0,0⟩,
 ⟨(some 11),.bin .gtr (.t 10) (.c (.d (.sc (.int .i64 16)))),(some (8,false)),0,0⟩,
 ⟨(some 12),.pick (.t 8) (.c (.d (.sc (.bool true)))) (.t 11),none,0,0⟩,
 ⟨(some 13),.mov (.t 12),none,0,0⟩,
 ⟨(some 14),.mov (.t 0),(some (13,false)),0,0⟩,
 ⟨(some 15),.indexS (.t 14) (.c (.d (.sc (.int .i64 0)))),(some (13,false)),0,0⟩,
 ⟨(some 16),.bin .leq (.t 15) (.c (.d (.sc (.int .u8 57)))),(some (13,false)),0,0⟩,
 ⟨(some 17),.pick (.t 13) (.c (.d (.sc (.bool true)))) (.t 16),none,0,0⟩] false)
 (.cond (.t 17)
 (.seq
 (.region [⟨(some 2),.mov (.c (.d (.sc (.bool false)))),none,0,0⟩] false)
 .ret)
 .skip))
 (.seq
 (.seq
 (.region [⟨(some 18),.mov (.t 0),none,0,0⟩,
 ⟨(some 19),.s2b (.t 18),none,0,0⟩,
 ⟨(some 20),.len (.t 19),none,0,0⟩,
 ⟨(some 21),.mov (.c (.d (.sc (.int .i64 0)))),none,0,0⟩] false)
 (.block 0
 (.loop
 (.seq
 (.region [⟨(some 22),.bin .lss (.t 21) (.t 20),none,0,0⟩] false)
 (.seq
 (.cond (.t 22)
 .skip
 (.exit 0))
 (.seq
 (.block 1
 (.seq
 (.region [⟨(some 23),.indexAddr 1 (.t 19) (.t 21),none,0,0⟩,
 ⟨(some 24),.load 1 false (.t 23),none,0,0⟩,
 ⟨(some 4),.mov (.t 24),none,0,0⟩] false)
 (.seq
 (.region [⟨(some 25),.mov (.t 4),none,0,0⟩,
 ⟨(some 26),.bin .or (.t 25) (.c (.d (.sc (.int .u8 32)))),none,0,0⟩,
 ⟨(some 27),.bin .lss (.t 26) (.c (.d (.sc (.int .u8 97)))),none,0,0⟩,
 ⟨(some 28),.mov (.t 27),none,0,0⟩,
 ⟨(some 29),.mov (.t 4),(some (28,false)),0,0⟩,
 ⟨(some 30),.bin .or (.t 29) (.c (.d (.sc (.int .u8 32)))),(some (28,false)),0,0⟩,
 ⟨(some 31),.bin .gtr (.t 30) (.c (.d (.sc (.int .u8 122)))),(some (28,false)),0,0⟩,
 ⟨(some 32),.pick (.t 28) (.c (.d (.sc (.bool true)))) (.t 31),none,0,0⟩,
 ⟨(some 33),.mov (.t 32),none,0,0⟩,
 ⟨(some 34),.mov (.t 4),(some (33,false)),0,0⟩,
 ⟨(some 35),.bin .and (.t 34) (.c (.d (.sc (.int .u8 64)))),(some (33,false)),0,0⟩,
 ⟨(some 36),.bin .eql (.t 35) (.c (.d (.sc (.int .u8 0)))),(some (33,false)),0,0⟩,
 ⟨(some 37),.pick (.t 33) (.c (.d (.sc (.bool true)))) (.t 36),none,0,0⟩,
 ⟨(some 38),.mov (.t 37),none,0,0⟩,
 ⟨(some 39),.mov (.t 4),(some (38,true)),0,0⟩,
 ⟨(some 40),.bin .lss (.t 39) (.c (.d (.sc (.int .u8 48)))),(some (38,true)),0,0⟩,
 ⟨(some 41),.mov (.t 40),(some (38,true)),0,0⟩,
 ⟨(some 42),.mov (.t 4),(some (41,false)),0,0⟩,
 ⟨(some 43),.bin .gtr (.t 42) (.c (.d (.sc (.int .u8 57)))),(some (41,false)),0,0⟩,
 ⟨(some 44),.pick (.t 41) (.c (.d (.sc (.bool true)))) (.t 43),(some (38,true)),0,0⟩,
 ⟨(some 45),.pick (.t 38) (.t 44) (.c (.d (.sc (.bool false)))),none,0,0⟩] false)
 (.cond (.t 45)
 (.seq
 (.region [⟨(some 2),.mov (.c (.d (.sc (.bool false)))),none,0,0⟩] false)
 .ret)
 .skip))))
 (.region [⟨(some 46),.bin .add (.t 21) (.c (.d (.sc (.int .i64 1)))),none,0,0⟩,
 ⟨(some 21),.mov (.t 46),none,0,0⟩] false)))))))
 (.seq
 (.region [⟨(some 2),.mov (.c (.d (.sc (.bool true)))),none,0,0⟩] false)
 .ret)))),false⟩
def t79:AFn:=⟨1,24,[.t 2],
 (.seq
 (.region [⟨(some 2),.mov (.c (.d (.sc (.bool false)))),none,0,0⟩] false)
 (.seq
 (.seq
 (.region [⟨(some 5),.mov (.t 0),none,0,0⟩,
 ⟨(some 6),.len (.t 5),none,0,0⟩,
 ⟨(some 7),.mov (.c (.d (.sc (.int .i64 0)))),none,0,0⟩] false)
 (.block 0
 (.loop
 (.seq
 (.region [⟨(some 8),.bin .lss (.t 7) (.t 6),none,0,0⟩] false)
 (.seq
 (.cond (.t 8)
 .skip
 (.exit 0))
 (.seq
 (.block 1
 (.seq
 (.region [⟨(some 9),.mov (.t 7),none,0,0⟩,
 ⟨(some 10),.indexAddr 2 (.t 5) (.t 7),none,0,0⟩,
 ⟨(some 11),.load 2 true (.t 10),none,0,0⟩,
 ⟨(some 4),.alloc [(.d (.sc (.string ⟨#[]⟩))),(.d (.sc (.int .i64 0)))],none,0,0⟩,
 ⟨(some 3),.mov (.t 9),none,0,0⟩,
 ⟨none,.store 2 (.t 4) (.t 11),none,0,0⟩] false)
 (.seq
 (.region [⟨(some 12),.fieldAddr 0 (.t 4),none,0,0⟩,
 ⟨(some 13),.load 1 false (.t 12),none,0,0⟩,
 ⟨(some 14),.callF 78 [(.t 13)],none,0,0⟩,
 ⟨(some 15),.un .not (.t 14),none,0,0⟩,
 ⟨(some 16),.mov (.t 15),none,0,0⟩,
 ⟨(some 17),.mov (.t 0),(some (16,false)),0,0⟩,
 ⟨(some 18),.mov (.t 3),(some (16,false)),0,0⟩,
 ⟨(some 19),.slice 2 (.t 17) none (some (.t 18)) none,(some (16,false)),0,0⟩,
 ⟨(some 20),.makeFunc 102 [(.t 4)],(some (16,false)),0,0⟩,
 ⟨(some 21),.callF 101 [(.t 19),(.t 20)],(some (16,false)),0,0⟩,
 ⟨(some 22),.pick (.t 16) (.c (.d (.sc (.bool true)))) (.t 21),none,0,0⟩] false)
 (.cond (.t 22)
 (.seq
 (.region [⟨(some 2),.mov (.c (.d (.sc (.bool false)))),none,0,0⟩] false)
 .ret)
 .skip))))
 (.region [⟨(some 23),.bin .add (.t 7) (.c (.d (.sc (.int .i64 1)))),none,0,0⟩,
 ⟨(some 7),.mov (.t 23),none,0,0⟩] false)))))))
 (.seq
 (.region [⟨(some 2),.mov (.c (.d (.sc (.bool true)))),none,0,0⟩] false)
 .ret))),false⟩
def t80:AFn:=⟨1,36,[.t 2],
 (.seq
 (.region [⟨(some 1),.box (.t 0),none,0,0⟩,
 ⟨(some 2),.mov (.c (.d (.sc (.int .i64 0)))),none,0,0⟩] false)
 (.seq
 (.region [⟨(some 8),.fieldAddr 0 (.t 1),none,0,0⟩,
 ⟨(some 9),.load 1 false (.t 8),none,0,0⟩,
 ⟨(some 10),.callF 83 [(.t 9)],none,0,0⟩,
 ⟨(some 7),.mov (.t 10),none,0,0⟩,
 ⟨(some 11),.extract (.t 7) 0,none,0,0⟩,
 ⟨(some 12),.extract (.t 7) 1,none,0,0⟩,
 ⟨(some 3),.alloc [(.d (.sc (.int .i64 0))),(.d (.sc (.int .i64 0))),(.d (.sc (.bool false))),(.d (.sc (.bool false))),(.d (.sc (.int .i64 0))),(.d (.sc (.int .i64 0))),(.d (.sc (.bool false))),(.d (.sc (.bool false))),(.d (.sc (.int .i64 0))),(.d (.sc (.int .i64 0))),(.d (.sc (.bool false))),(.d (.sc (.bool false)))],none,0,0⟩,
 ⟨none,.store 12 (.t 3) (.t 11),none,0,0⟩,
 ⟨(some 4),.mov (.t 12),none,0,0⟩] false)
 (.seq
 (.seq
 (.region [⟨(some 13),.mov (.t 4),none,0,0⟩,
 ⟨(some 14),.bin .lss (.t 13) (.c (.d (.sc (.int .i64 0)))),none,0,0⟩] false)
 (.cond (.t 14)
 (.seq
 (.region [⟨(some 2),.mov (.c (.d (.sc (.int .i64 8)))),none,0,0⟩] false)
 .ret)
 .skip))
 (.seq
 (.seq
 (.region [⟨(some 15),.load 4 true (.t 1),none,0,0⟩,
 ⟨(some 16),.callF 84 [(.t 15)],none,0,0⟩,
 ⟨(some 17),.mov (.c (.d (.sc (.int .i64 0)))),none,0,0⟩] false)
 (.block 0
 (.loop
 (.seq
 (.region [⟨(some 18),.bin .lss (.t 17) (.c (.d (.sc (.int .i64 3)))),none,0,0⟩] false)
 (.seq
 (.cond (.t 18)
 .skip
 (.exit 0))
 (.seq
 (.block 1
 (.seq
 (.region [⟨(some 19),.mov (.t 17),none,0,0⟩,
 ⟨(some 20),.indexA 3 1 false (.t 16) (.t 17),none,0,0⟩,
 ⟨(some 5),.mov (.t 19),none,0,0⟩,
 ⟨(some 6),.mov (.t 20),none,0,0⟩] false)
 (.seq
 (.region [⟨(some 21),.mov (.t 6),none,0,0⟩,
 ⟨(some 22),.mov (.t 5),none,0,0⟩,
 ⟨(some 23),.indexArr 3 4 (.t 3) (.t 22),none,0,0⟩,
 ⟨(some 24),.fieldAddr 0 (.t 23),none,0,0⟩,
 ⟨(some 25),.load 1 false (.t 24),none,0,0⟩,
 ⟨(some 26),.bin .lss (.t 21) (.t 25),none,0,0⟩,
 ⟨(some 27),.mov (.t 26),none,0,0⟩,
 ⟨(some 28),.mov (.t 6),(some (27,false)),0,0⟩,
 ⟨(some 29),.mov (.t 5),(some (27,false)),0,0⟩,
 ⟨(some 30),.indexArr 3 4 (.t 3) (.t 29),(some (27,false)),0,0⟩,
 ⟨(some 31),.fieldAddr 1 (.t 30),(some (27,false)),0,0⟩,
 ⟨(some 32),.load 1 false (.t 31),(some (27,false)),0,0⟩,
 ⟨(some 33),.bin .gtr (.t 28) (.t 32),(some (27,false)),0,0⟩,
 ⟨(some 34),.pick (.t 27) (.c (.d (.sc (.bool true)))) (.t 33),none,0,0⟩] false)
 (.cond (.t 34)
 (.seq
 (.region [⟨(some 2),.mov (.c (.d (.sc (.int .i64 8)))),none,0,0⟩] false)
 .ret)
 .skip))))
 (.region [⟨(some 35),.bin .add (.t 17) (.c (.d (.sc (.int .i64 1)))),none,0,0⟩,
 ⟨(some 17),.mov (.t 35),none,0,0⟩] false)))))))
 (.seq
 (.region [⟨(some 2),.mov (.c (.d (.sc (.int .i64 0)))),none,0,0⟩] false)
 .ret))))),false⟩
def t81:AFn:=⟨2,15,[.t 4],
 (.seq
 (.region [⟨(some 4),.mov (.c (.d (.sc (.int .i64 0)))),none,0,0⟩] false)
 (.seq
 (.seq
 (.region [⟨(some 6),.mov (.t 1),none,0,0⟩,
 ⟨(some 7),.callF 103 [(.t 6)],none,0,0⟩,
 ⟨(some 5),.mov (.t 7),none,0,0⟩] false)
 (.seq
 (.region [⟨(some 8),.mov (.t 5),none,0,0⟩,
 ⟨(some 9),.bin .neq (.t 8) (.c (.d (.sc (.int .i64 0)))),none,0,0⟩] false)
 (.cond (.t 9)
 (.seq
 (.region [⟨(some 10),.mov (.t 5),none,0,0⟩,
 ⟨(some 4),.mov (.t 10),none,0,0⟩] false)
 .ret)
 .skip)))
 (.seq
 (.seq
 (.region [⟨(some 11),.mov (.t 0),none,0,0⟩,
 ⟨(some 12),.mov (.t 1),none,0,0⟩,
 ⟨(some 13),.callF 104 [(.t 11),(.t 12)],none,0,0⟩,
 ⟨(some 14),.un .not (.t 13),none,0,0⟩] false)
 (.cond (.t 14)
 (.seq
 (.region [⟨(some 4),.mov (.c (.d (.sc (.int .i64 8)))),none,0,0⟩] false)
 .ret)
 .skip))
 (.seq
 (.region [⟨(some 4),.mov (.c (.d (.sc (.int .i64 0)))),none,0,0⟩] false)
 .ret)))),false⟩
def t82:AFn:=⟨2,7,[],
 (.region [⟨(some 3),.load 1 false (.t 1),none,0,0⟩,
 ⟨(some 4),.mov (.t 0),none,0,0⟩,
 ⟨(some 5),.buildSlice 1 1 [(.sc (.int .u8 0))] [(0,(.t 4))],none,0,0⟩,
 ⟨(some 6),.append 1 1 (.t 3) (.t 5),none,0,5374345221⟩,
 ⟨none,.store 1 (.t 1) (.t 6),none,0,0⟩] false),true⟩
def t83:AFn:=⟨1,147,[.cell 2 12 true,.cell 3 1 false],
 (.seq
 (.region [⟨(some 2),.alloc [(.d (.sc (.int .i64 0))),(.d (.sc (.int .i64 0))),(.d (.sc (.bool false))),(.d (.sc (.bool false))),(.d (.sc (.int .i64 0))),(.d (.sc (.int .i64 0))),(.d (.sc (.bool false))),(.d (.sc (.bool false))),(.d (.sc (.int .i64 0))),(.d (.sc (.int .i64 0))),(.d (.sc (.bool false))),(.d (.sc (.bool false)))],none,0,0⟩,
 ⟨(some 3),.alloc [(.d (.sc (.int .i64 0)))],none,0,0⟩] false)
 (.seq
 (.region [⟨(some 5),.makeFunc 105 [(.t 2),(.t 3)],none,0,0⟩,
 ⟨(some 4),.mov (.t 5),none,0,0⟩] false)
 (.seq
 (.seq
 (.region [⟨(some 6),.mov (.t 0),none,0,0⟩] false)
 (.block 0
 (.seq
 (.block 19
 (.seq
 (.block 18
 (.seq
 (.block 17
 (.seq
 (.block 16
 (.seq
 (.block 15
 (.seq
 (.block 14
 (.seq
 (.block 13
 (.seq
 (.block 12
 (.seq
 (.block 11
 (.seq
 (.block 10
 (.seq
 (.block 9
 (.seq
 (.block 8
 (.seq
 (.block 7
 (.seq
 (.block 6
 (.seq
 (.block 5
 (.seq
 (.block 4
 (.seq
 (.block 3
 (.seq
 (.block 2
 (.seq
 (.block 1
 (.seq
 (.seq
 (.seq
 (.seq
 (.region [⟨(some 8),.bin .eql (.t 6) (.c (.d (.sc (.int .u8 30)))),none,0,0⟩,
 ⟨(some 7),.mov (.t 8),none,0,0⟩] false)
 (.cond (.t 7)
 .skip
 (.region [⟨(some 9),.bin .eql (.t 6) (.c (.d (.sc (.int .u8 31)))),none,0,0⟩,
 ⟨(some 7),.mov (.t 9),none,0,0⟩] false)))
 (.cond (.t 7)
 (.exit 1)
 .skip))
 (.seq
 (.seq
 (.region [⟨(some 11),.bin .eql (.t 6) (.c (.d (.sc (.int .u8 1)))),none,0,0⟩,
 ⟨(some 10),.mov (.t 11),none,0,0⟩] false)
 (.cond (.t 10)
 (.exit 2)
 .skip))
 (.seq
 (.seq
 (.region [⟨(some 13),.bin .eql (.t 6) (.c (.d (.sc (.int .u8 2)))),none,0,0⟩,
 ⟨(some 12),.mov (.t 13),none,0,0⟩] false)
 (.cond (.t 12)
 (.exit 3)
 .skip))
 (.seq
 (.seq
 (.region [⟨(some 15),.bin .eql (.t 6) (.c (.d (.sc (.int .u8 3)))),none,0,0⟩,
 ⟨(some 14),.mov (.t 15),none,0,0⟩] false)
 (.cond (.t 14)
 (.exit 4)
 .skip))
 (.seq
 (.seq
 (.seq
 (.region [⟨(some 17),.bin .eql (.t 6) (.c (.d (.sc (.int .u8 4)))),none,0,0⟩,
 ⟨(some 16),.mov (.t 17),none,0,0⟩] false)
 (.cond (.t 16)
 .skip
 (.region [⟨(some 18),.bin .eql (.t 6) (.c (.d (.sc (.int .u8 15)))),none,0,0⟩,
 ⟨(some 16),.mov (.t 18),none,0,0⟩] false)))
 (.cond (.t 16)
 (.exit 5)
 .skip))
 (.seq
 (.seq
 (.seq
 (.region [⟨(some 20),.bin .eql (.t 6) (.c (.d (.sc (.int .u8 6)))),none,0,0⟩,
 ⟨(some 19),.mov (.t 20),none,0,0⟩] false)
 (.cond (.t 19)
 .skip
 (.seq
 (.region [⟨(some 21),.bin .eql (.t 6) (.c (.d (.sc (.int .u8 7)))),none,0,0⟩,
 ⟨(some 19),.mov (.t 21),none,0,0⟩] false)
 (.cond (.t 19)
 .skip
 (.seq
 (.region [⟨(some 22),.bin .eql (.t 6) (.c (.d (.sc (.int .u8 8)))),none,0,0⟩,
 ⟨(some 19),.mov (.t 22),none,0,0⟩] false)
 (.cond (.t 19)
 .skip
 (.seq
 (.region [⟨(some 23),.bin .eql (.t 6) (.c (.d (.sc (.int .u8 9)))),none,0,0⟩,
 ⟨(some 19),.mov (.t 23),none,0,0⟩] false)
 (.cond (.t 19)
 .skip
 (.seq
 (.region [⟨(some 24),.bin .eql (.t 6) (.c (.d (.sc (.int .u8 10)))),none,0,0⟩,
 ⟨(some 19),.mov (.t 24),none,0,0⟩] false)
 (.cond (.t 19)
 .skip
 (.seq
 (.region [⟨(some 25),.bin .eql (.t 6) (.c (.d (.sc (.int .u8 11)))),none,0,0⟩,
 ⟨(some 19),.mov (.t 25),none,0,0⟩] false)
 (.cond (.t 19)
 .skip
 (.region [⟨(some 26),.bin .eql (.t 6) (.c (.d (.sc (.int .u8 19)))),none,0,0⟩,
 ⟨(some 19),.mov (.t 26),none,0,0⟩] false)))))))))))))
 (.cond (.t 19)
 (.exit 6)
 .skip))
 (.seq
 (.seq
 (.seq
 (.region [⟨(some 28),.bin .eql (.t 6) (.c (.d (.sc (.int .u8 5)))),none,0,0⟩,
 ⟨(some 27),.mov (.t 28),none,0,0⟩] false)
 (.cond (.t 27)
 .skip
 (.seq
 (.region [⟨(some 29),.bin .eql (.t 6) (.c (.d (.sc (.int .u8 12)))),none,0,0⟩,
 ⟨(some 27),.mov (.t 29),none,0,0⟩] false)
 (.cond (.t 27)
 .skip
 (.seq
 (.region [⟨(some 30),.bin .eql (.t 6) (.c (.d (.sc (.int .u8 16)))),none,0,0⟩,
 ⟨(some 27),.mov (.t 30),none,0,0⟩] false)
 (.cond (.t 27)
 .skip
 (.seq
 (.region [⟨(some 31),.bin .eql (.t 6) (.c (.d (.sc (.int .u8 18)))),none,0,0⟩,
 ⟨(some 27),.mov (.t 31),none,0,0⟩] false)
 (.cond (.t 27)
 .skip
 (.seq
 (.region [⟨(some 32),.bin .eql (.t 6) (.c (.d (.sc (.int .u8 21)))),none,0,0⟩,
 ⟨(some 27),.mov (.t 32),none,0,0⟩] false)
 (.cond (.t 27)
 .skip
 (.region [⟨(some 33),.bin .eql (.t 6) (.c (.d (.sc (.int .u8 33)))),none,0,0⟩,
 ⟨(some 27),.mov (.t 33),none,0,0⟩] false)))))))))))
 (.cond (.t 27)
 (.exit 7)
 .skip))
 (.seq
 (.seq
 (.region [⟨(some 35),.bin .eql (.t 6) (.c (.d (.sc (.int .u8 13)))),none,0,0⟩,
 ⟨(some 34),.mov (.t 35),none,0,0⟩] false)
 (.cond (.t 34)
 (.exit 8)
 .skip))
 (.seq
 (.seq
 (.region [⟨(some 37),.bin .eql (.t 6) (.c (.d (.sc (.int .u8 14)))),none,0,0⟩,
 ⟨(some 36),.mov (.t 37),none,0,0⟩] false)
 (.cond (.t 36)
 (.exit 9)
 .skip))
 (.seq
 (.seq
 (.region [⟨(some 39),.bin .eql (.t 6) (.c (.d (.sc (.int .u8 20)))),none,0,0⟩,
 ⟨(some 38),.mov (.t 39),none,0,0⟩] false)
 (.cond (.t 38)
 (.exit 10)
 .skip))
 (.seq
 (.seq
 (.region [⟨(some 41),.bin .eql (.t 6) (.c (.d (.sc (.int .u8 17)))),none,0,0⟩,
 ⟨(some 40),.mov (.t 41),none,0,0⟩] false)
 (.cond (.t 40)
 (.exit 11)
 .skip))
 (.seq
 (.seq
 (.region [⟨(some 43),.bin .eql (.t 6) (.c (.d (.sc (.int .u8 22)))),none,0,0⟩,
 ⟨(some 42),.mov (.t 43),none,0,0⟩] false)
 (.cond (.t 42)
 (.exit 12)
 .skip))
 (.seq
 (.seq
 (.region [⟨(some 45),.bin .eql (.t 6) (.c (.d (.sc (.int .u8 23)))),none,0,0⟩,
 ⟨(some 44),.mov (.t 45),none,0,0⟩] false)
 (.cond (.t 44)
 (.exit 13)
 .skip))
 (.seq
 (.seq
 (.seq
 (.region [⟨(some 47),.bin .eql (.t 6) (.c (.d (.sc (.int .u8 24)))),none,0,0⟩,
 ⟨(some 46),.mov (.t 47),none,0,0⟩] false)
 (.cond (.t 46)
 .skip
 (.seq
 (.region [⟨(some 48),.bin .eql (.t 6) (.c (.d (.sc (.int .u8 28)))),none,0,0⟩,
 ⟨(some 46),.mov (.t 48),none,0,0⟩] false)
 (.cond (.t 46)
 .skip
 (.region [⟨(some 49),.bin .eql (.t 6) (.c (.d (.sc (.int .u8 32)))),none,0,0⟩,
 ⟨(some 46),.mov (.t 49),none,0,0⟩] false)))))
 (.cond (.t 46)
 (.exit 14)
 .skip))
 (.seq
 (.seq
 (.region [⟨(some 51),.bin .eql (.t 6) (.c (.d (.sc (.int .u8 25)))),none,0,0⟩,
 ⟨(some 50),.mov (.t 51),none,0,0⟩] false)
 (.cond (.t 50)
 (.exit 15)
 .skip))
 (.seq
 (.seq
 (.seq
 (.region [⟨(some 53),.bin .eql (.t 6) (.c (.d (.sc (.int .u8 26)))),none,0,0⟩,
 ⟨(some 52),.mov (.t 53),none,0,0⟩] false)
 (.cond (.t 52)
 .skip
 (.region [⟨(some 54),.bin .eql (.t 6) (.c (.d (.sc (.int .u8 27)))),none,0,0⟩,
 ⟨(some 52),.mov (.t 54),none,0,0⟩] false)))
 (.cond (.t 52)
 (.exit 16)
 .skip))
 (.seq
 (.seq
 (.region [⟨(some 56),.bin .eql (.t 6) (.c (.d (.sc (.int .u8 29)))),none,0,0⟩,
 ⟨(some 55),.mov (.t 56),none,0,0⟩] false)
 (.cond (.t 55)
 (.exit 17)
 .skip))
 (.seq
 (.region [⟨(some 58),.bin .eql (.t 6) (.c (.d (.sc (.int .u8 34)))),none,0,0⟩,
 ⟨(some 57),.mov (.t 58),none,0,0⟩] false)
 (.cond (.t 57)
 (.exit 18)
 .skip)))))))))))))))))))
 (.exit 19)))
 (.exit 0)))
 (.seq
 (.region [⟨(some 59),.mov (.t 4),none,0,0⟩,
 ⟨(some 60),.callF 106 [],none,0,0⟩,
 ⟨(some 61),.callF 107 [],none,0,0⟩,
 ⟨(some 62),.buildSlice 4 2 [(.sc (.int .i64 0)),(.sc (.int .i64 0)),(.sc (.bool false)),(.sc (.bool false))] [(0,(.t 60)),(1,(.t 61))],none,0,0⟩,
 ⟨(some 63),.callv (.t 59) [(.t 62)],none,0,0⟩] false)
 (.exit 0))))
 (.seq
 (.region [⟨(some 64),.mov (.t 4),none,0,0⟩,
 ⟨(some 65),.callF 106 [],none,0,0⟩,
 ⟨(some 66),.callF 108 [(.c (.d (.sc (.int .i64 32))))],none,0,0⟩,
 ⟨(some 67),.buildSlice 4 2 [(.sc (.int .i64 0)),(.sc (.int .i64 0)),(.sc (.bool false)),(.sc (.bool false))] [(0,(.t 65)),(1,(.t 66))],none,0,0⟩,
 ⟨(some 68),.callv (.t 64) [(.t 67)],none,0,0⟩] false)
 (.exit 0))))
 (.seq
 (.region [⟨(some 69),.mov (.t 4),none,0,0⟩,
 ⟨(some 70),.callF 106 [],none,0,0⟩,
 ⟨(some 71),.callF 108 [(.c (.d (.sc (.int .i64 2))))],none,0,0⟩,
 ⟨(some 72),.buildSlice 4 2 [(.sc (.int .i64 0)),(.sc (.int .i64 0)),(.sc (.bool false)),(.sc (.bool false))] [(0,(.t 70)),(1,(.t 71))],none,0,0⟩,
 ⟨(some 73),.callv (.t 69) [(.t 72)],none,0,0⟩] false)
 (.exit 0))))
 (.seq
 (.region [⟨(some 74),.mov (.t 4),none,0,0⟩,
 ⟨(some 75),.callF 106 [],none,0,0⟩,
 ⟨(some 76),.buildSlice 4 1 [(.sc (.int .i64 0)),(.sc (.int .i64 0)),(.sc (.bool false)),(.sc (.bool false))] [(0,(.t 75))],none,0,0⟩,
 ⟨(some 77),.callv (.t 74) [(.t 76)],none,0,0⟩] false)
 (.exit 0))))
 (.region [⟨(some 78),.callF 109 [],none,0,0⟩,
 ⟨(some 79),.indexArr 3 4 (.t 2) (.c (.d (.sc (.int .i64 2)))),none,0,0⟩,
 ⟨none,.store 4 (.t 79) (.t 78),none,0,0⟩] false)))
 (.seq
 (.seq
 (.region [⟨(some 80),.callF 106 [],none,0,0⟩,
 ⟨(some 81),.callF 109 [],none,0,0⟩,
 ⟨(some 82),.indexArr 3 4 (.t 2) (.c (.d (.sc (.int .i64 0)))),none,0,0⟩,
 ⟨none,.store 4 (.t 82) (.t 80),none,0,0⟩,
 ⟨(some 83),.indexArr 3 4 (.t 2) (.c (.d (.sc (.int .i64 1)))),none,0,0⟩,
 ⟨none,.store 4 (.t 83) (.t 81),none,0,0⟩,
 ⟨none,.store 1 (.t 3) (.c (.d (.sc (.int .i64 2)))),none,0,0⟩] false)
 (.seq
 (.region [⟨(some 84),.indexArr 3 4 (.t 2) (.c (.d (.sc (.int .i64 2)))),none,0,0⟩,
 ⟨(some 85),.fieldAddr 2 (.t 84),none,0,0⟩,
 ⟨(some 86),.load 1 false (.t 85),none,0,0⟩] false)
 (.cond (.t 86)
 (.region [⟨none,.store 1 (.t 3) (.c (.d (.sc (.int .i64 3)))),none,0,0⟩] false)
 .skip)))
 (.exit 0))))
 (.seq
 (.region [⟨(some 87),.mov (.t 4),none,0,0⟩,
 ⟨(some 88),.callF 106 [],none,0,0⟩,
 ⟨(some 89),.callF 109 [],none,0,0⟩,
 ⟨(some 90),.callF 108 [(.c (.d (.sc (.int .i64 8))))],none,0,0⟩,
 ⟨(some 91),.buildSlice 4 3 [(.sc (.int .i64 0)),(.sc (.int .i64 0)),(.sc (.bool false)),(.sc (.bool false))] [(0,(.t 88)),(1,(.t 89)),(2,(.t 90))],none,0,0⟩,
 ⟨(some 92),.callv (.t 87) [(.t 91)],none,0,0⟩] false)
 (.exit 0))))
 (.seq
 (.region [⟨(some 93),.mov (.t 4),none,0,0⟩,
 ⟨(some 94),.callF 109 [],none,0,0⟩,
 ⟨(some 95),.callF 108 [(.c (.d (.sc (.int .i64 8))))],none,0,0⟩,
 ⟨(some 96),.callF 109 [],none,0,0⟩,
 ⟨(some 97),.buildSlice 4 3 [(.sc (.int .i64 0)),(.sc (.int .i64 0)),(.sc (.bool false)),(.sc (.bool false))] [(0,(.t 94)),(1,(.t 95)),(2,(.t 96))],none,0,0⟩,
 ⟨(some 98),.callv (.t 93) [(.t 97)],none,0,0⟩] false)
 (.exit 0))))
 (.seq
 (.region [⟨(some 99),.mov (.t 4),none,0,0⟩,
 ⟨(some 100),.callF 109 [],none,0,0⟩,
 ⟨(some 101),.callF 109 [],none,0,0⟩,
 ⟨(some 102),.callF 109 [],none,0,0⟩,
 ⟨(some 103),.buildSlice 4 3 [(.sc (.int .i64 0)),(.sc (.int .i64 0)),(.sc (.bool false)),(.sc (.bool false))] [(0,(.t 100)),(1,(.t 101)),(2,(.t 102))],none,0,0⟩,
 ⟨(some 104),.callv (.t 99) [(.t 103)],none,0,0⟩] false)
 (.exit 0))))
 (.seq
 (.region [⟨(some 105),.mov (.t 4),none,0,0⟩,
 ⟨(some 106),.callF 109 [],none,0,0⟩,
 ⟨(some 107),.callF 109 [],none,0,0⟩,
 ⟨(some 108),.buildSlice 4 2 [(.sc (.int .i64 0)),(.sc (.int .i64 0)),(.sc (.bool false)),(.sc (.bool false))] [(0,(.t 106)),(1,(.t 107))],none,0,0⟩,
 ⟨(some 109),.callv (.t 105) [(.t 108)],none,0,0⟩] false)
 (.exit 0))))
 (.seq
 (.region [⟨(some 110),.mov (.t 4),none,0,0⟩,
 ⟨(some 111),.callF 108 [(.c (.d (.sc (.int .i64 200))))],none,0,0⟩,
 ⟨(some 112),.buildSlice 4 1 [(.sc (.int .i64 0)),(.sc (.int .i64 0)),(.sc (.bool false)),(.sc (.bool false))] [(0,(.t 111))],none,0,0⟩,
 ⟨(some 113),.callv (.t 110) [(.t 112)],none,0,0⟩] false)
 (.exit 0))))
 (.seq
 (.region [⟨(some 114),.mov (.t 4),none,0,0⟩,
 ⟨(some 115),.callF 109 [],none,0,0⟩,
 ⟨(some 116),.callF 108 [(.c (.d (.sc (.int .i64 200))))],none,0,0⟩,
 ⟨(some 117),.buildSlice 4 2 [(.sc (.int .i64 0)),(.sc (.int .i64 0)),(.sc (.bool false)),(.sc (.bool false))] [(0,(.t 115)),(1,(.t 116))],none,0,0⟩,
 ⟨(some 118),.callv (.t 114) [(.t 117)],none,0,0⟩] false)
 (.exit 0))))
 (.seq
 (.region [⟨(some 119),.mov (.t 4),none,0,0⟩,
 ⟨(some 120),.callF 109 [],none,0,0⟩,
 ⟨(some 121),.buildSlice 4 1 [(.sc (.int .i64 0)),(.sc (.int .i64 0)),(.sc (.bool false)),(.sc (.bool false))] [(0,(.t 120))],none,0,0⟩,
 ⟨(some 122),.callv (.t 119) [(.t 121)],none,0,0⟩] false)
 (.exit 0))))
 (.seq
 (.seq
 (.region [⟨(some 123),.mov (.t 4),none,0,0⟩,
 ⟨(some 124),.callF 106 [],none,0,0⟩,
 ⟨(some 125),.callF 108 [(.c (.d (.sc (.int .i64 32))))],none,0,0⟩,
 ⟨(some 126),.buildSlice 4 2 [(.sc (.int .i64 0)),(.sc (.int .i64 0)),(.sc (.bool false)),(.sc (.bool false))] [(0,(.t 124)),(1,(.t 125))],none,0,0⟩,
 ⟨(some 127),.callv (.t 123) [(.t 126)],none,0,0⟩] false)
 (.region [⟨(some 128),.indexArr 3 4 (.t 2) (.c (.d (.sc (.int .i64 0)))),none,0,0⟩,
 ⟨(some 129),.fieldAddr 0 (.t 128),none,0,0⟩,
 ⟨none,.store 1 (.t 129) (.c (.d (.sc (.int .i64 (-1))))),none,0,0⟩] false))
 (.exit 0))))
 (.seq
 (.region [⟨(some 130),.mov (.t 4),none,0,0⟩,
 ⟨(some 131),.callF 108 [(.c (.d (.sc (.int .i64 32))))],none,0,0⟩,
 ⟨(some 132),.buildSlice 4 1 [(.sc (.int .i64 0)),(.sc (.int .i64 0)),(.sc (.bool false)),(.sc (.bool false))] [(0,(.t 131))],none,0,0⟩,
 ⟨(some 133),.callv (.t 130) [(.t 132)],none,0,0⟩] false)
 (.exit 0))))
 (.seq
 (.region [⟨(some 134),.mov (.t 4),none,0,0⟩,
 ⟨(some 135),.callF 106 [],none,0,0⟩,
 ⟨(some 136),.callF 106 [],none,0,0⟩,
 ⟨(some 137),.buildSlice 4 2 [(.sc (.int .i64 0)),(.sc (.int .i64 0)),(.sc (.bool false)),(.sc (.bool false))] [(0,(.t 135)),(1,(.t 136))],none,0,0⟩,
 ⟨(some 138),.callv (.t 134) [(.t 137)],none,0,0⟩] false)
 (.exit 0))))
 (.seq
 (.seq
 (.region [⟨(some 139),.mov (.t 4),none,0,0⟩,
 ⟨(some 140),.callF 109 [],none,0,0⟩,
 ⟨(some 141),.buildSlice 4 1 [(.sc (.int .i64 0)),(.sc (.int .i64 0)),(.sc (.bool false)),(.sc (.bool false))] [(0,(.t 140))],none,0,0⟩,
 ⟨(some 142),.callv (.t 139) [(.t 141)],none,0,0⟩] false)
 (.region [⟨(some 143),.indexArr 3 4 (.t 2) (.c (.d (.sc (.int .i64 0)))),none,0,0⟩,
 ⟨(some 144),.fieldAddr 0 (.t 143),none,0,0⟩,
 ⟨none,.store 1 (.t 144) (.c (.d (.sc (.int .i64 (-1))))),none,0,0⟩] false))
 (.exit 0))))
 (.seq
 (.region [⟨none,.store 1 (.t 3) (.c (.d (.sc (.int .i64 (-1))))),none,0,0⟩] false)
 (.exit 0)))))
 (.seq
 (.region [⟨(some 145),.load 12 true (.t 2),none,0,0⟩,
 ⟨(some 146),.load 1 false (.t 3),none,0,0⟩,
 ⟨none,.store 12 (.t 2) (.t 145),none,1,0⟩,
 ⟨none,.store 1 (.t 3) (.t 146),none,7,0⟩] true)
 .ret)))),false⟩
def t84:AFn:=⟨1,10,[.cell 2 3 true],
 (.seq
 (.region [⟨(some 1),.box (.t 0),none,0,0⟩,
 ⟨(some 2),.alloc [(.d (.sc (.int .i64 0))),(.d (.sc (.int .i64 0))),(.d (.sc (.int .i64 0)))],none,0,0⟩] false)
 (.seq
 (.region [⟨(some 3),.fieldAddr 1 (.t 1),none,0,0⟩,
 ⟨(some 4),.load 1 false (.t 3),none,0,0⟩,
 ⟨(some 5),.fieldAddr 2 (.t 1),none,0,0⟩,
 ⟨(some 6),.load 1 false (.t 5),none,0,0⟩,
 ⟨(some 7),.fieldAddr 3 (.t 1),none,0,0⟩,
 ⟨(some 8),.load 1 false (.t 7),none,0,0⟩,
 ⟨(some 9),.build [(.d (.sc (.int .i64 0))),(.d (.sc (.int .i64 0))),(.d (.sc (.int .i64 0)))] [(0,1,(.t 4)),(1,1,(.t 6)),(2,1,(.t 8))],none,0,0⟩,
 ⟨none,.store 3 (.t 2) (.t 9),none,0,0⟩] false)
 .ret)),false⟩
def t92:AFn:=⟨1,20,[.t 2],
 (.seq
 (.region [⟨(some 1),.box (.t 0),none,0,0⟩,
 ⟨(some 2),.mov (.c (.d (.sc (.int .i64 0)))),none,0,0⟩] false)
 (.seq
 (.seq
 (.region [⟨(some 3),.fieldAddr 0 (.t 1),none,0,0⟩,
 ⟨(some 4),.load 1 false (.t 3),none,0,0⟩,
 ⟨(some 5),.len (.t 4),none,0,0⟩,
 ⟨(some 6),.bin .gtr (.t 5) (.c (.d (.sc (.int .i64 200000)))),none,0,0⟩,
 ⟨(some 7),.mov (.t 6),none,0,0⟩,
 ⟨(some 8),.fieldAddr 1 (.t 1),(some (7,false)),0,0⟩,
 ⟨(some 9),.load 1 false (.t 8),(some (7,false)),0,0⟩,
 ⟨(some 10),.bin .lss (.t 9) (.c (.d (.sc (.int .i64 0)))),(some (7,false)),0,0⟩,
 ⟨(some 11),.pick (.t 7) (.c (.d (.sc (.bool true)))) (.t 10),none,0,0⟩,
 ⟨(some 12),.mov (.t 11),none,0,0⟩,
 ⟨(some 13),.fieldAddr 1 (.t 1),(some (12,false)),0,0⟩,
 ⟨(some 14),.load 1 false (.t 13),(some (12,false)),0,0⟩,
 ⟨(some 15),.fieldAddr 0 (.t 1),(some (12,false)),0,0⟩,
 ⟨(some 16),.load 1 false (.t 15),(some (12,false)),0,0⟩,
 ⟨(some 17),.len (.t 16),(some (12,false)),0,0⟩,
 ⟨(some 18),.bin .gtr (.t 14) (.t 17),(some (12,false)),0,0⟩,
 ⟨(some 19),.pick (.t 12) (.c (.d (.sc (.bool true)))) (.t 18),none,0,0⟩] false)
 (.cond (.t 19)
 (.seq
 (.region [⟨(some 2),.mov (.c (.d (.sc (.int .i64 8)))),none,0,0⟩] false)
 .ret)
 .skip))
 (.seq
 (.region [⟨(some 2),.mov (.c (.d (.sc (.int .i64 0)))),none,0,0⟩] false)
 .ret))),false⟩
def t93:AFn:=⟨1,15,[.t 2],
 (.seq
 (.region [⟨(some 2),.mov (.c (.d (.sc (.int .i64 0)))),none,0,0⟩] false)
 (.seq
 (.seq
 (.region [⟨(some 5),.mov (.t 0),none,0,0⟩,
 ⟨(some 6),.len (.t 5),none,0,0⟩,
 ⟨(some 7),.mov (.c (.d (.sc (.int .i64 0)))),none,0,0⟩] false)
 (.block 0
 (.loop
 (.seq
 (.region [⟨(some 8),.bin .lss (.t 7) (.t 6),none,0,0⟩] false)
 (.seq
 (.cond (.t 8)
 .skip
 (.exit 0))
 (.seq
 (.block 1
 (.seq
 (.region [⟨(some 9),.indexAddr 1 (.t 5) (.t 7),none,0,0⟩,
 ⟨(some 10),.load 1 false (.t 9),none,0,0⟩,
 ⟨(some 4),.mov (.t 10),none,0,0⟩] false)
 (.seq
 (.region [⟨(some 11),.mov (.t 4),none,0,0⟩,
 ⟨(some 12),.bin .neq (.t 11) (.c (.d (.sc (.int .i64 0)))),none,0,0⟩] false)
 (.cond (.t 12)
 (.seq
 (.region [⟨(some 13),.mov (.t 4),none,0,0⟩,
 ⟨(some 2),.mov (.t 13),none,0,0⟩] false)
 .ret)
 .skip))))
 (.region [⟨(some 14),.bin .add (.t 7) (.c (.d (.sc (.int .i64 1)))),none,0,0⟩,
 ⟨(some 7),.mov (.t 14),none,0,0⟩] false)))))))
 (.seq
 (.region [⟨(some 2),.mov (.c (.d (.sc (.int .i64 0)))),none,0,0⟩] false)
 .ret))),false⟩
def t94:AFn:=⟨1,9,[.t 2],
 (.seq
 (.region [⟨(some 2),.mov (.c (.d (.sc (.int .i64 0)))),none,0,0⟩] false)
 (.seq
 (.seq
 (.region [⟨(some 3),.mov (.t 0),none,0,0⟩] false)
 (.block 0
 (.seq
 (.seq
 (.region [⟨(some 5),.bin .eql (.t 3) (.c (.d (.sc (.int .i64 1)))),none,0,0⟩,
 ⟨(some 4),.mov (.t 5),none,0,0⟩] false)
 (.cond (.t 4)
 .skip
 (.seq
 (.region [⟨(some 6),.bin .eql (.t 3) (.c (.d (.sc (.int .i64 2)))),none,0,0⟩,
 ⟨(some 4),.mov (.t 6),none,0,0⟩] false)
 (.cond (.t 4)
 .skip
 (.seq
 (.region [⟨(some 7),.bin .eql (.t 3) (.c (.d (.sc (.int .i64 4)))),none,0,0⟩,
 ⟨(some 4),.mov (.t 7),none,0,0⟩] false)
 (.cond (.t 4)
 .skip
 (.region [⟨(some 8),.bin .eql (.t 3) (.c (.d (.sc (.int .i64 8)))),none,0,0⟩,
 ⟨(some 4),.mov (.t 8),none,0,0⟩] false)))))))
 (.cond (.t 4)
 (.seq
 (.region [⟨(some 2),.mov (.c (.d (.sc (.int .i64 0)))),none,0,0⟩] false)
 .ret)
 .skip))))
 (.seq
 (.region [⟨(some 2),.mov (.c (.d (.sc (.int .i64 2)))),none,0,0⟩] false)
 .ret))),false⟩
def t95:AFn:=⟨1,8,[.cell 2 2 true,.cell 3 4 true,.t 4],
 (.seq
 (.region [⟨(some 2),.alloc [(.own [] .full),(.d (.sc (.int .i64 0)))],none,0,0⟩,
 ⟨(some 3),.alloc [(.d (.sc (.int .u8 0))),(.d (.sc (.int .i64 0))),(.d (.sc (.int .i64 0))),(.d (.sc (.int .i64 0)))],none,0,0⟩,
 ⟨(some 4),.mov (.c (.d (.sc (.int .i64 0)))),none,0,0⟩] false)
 (.seq
 (.region [⟨(some 5),.build [(.own [] .full),(.d (.sc (.int .i64 0)))] [],none,0,0⟩,
 ⟨(some 6),.build [(.d (.sc (.int .u8 0))),(.d (.sc (.int .i64 0))),(.d (.sc (.int .i64 0))),(.d (.sc (.int .i64 0)))] [],none,0,0⟩,
 ⟨(some 7),.mov (.t 0),none,0,0⟩,
 ⟨none,.store 2 (.t 2) (.t 5),none,0,0⟩,
 ⟨none,.store 4 (.t 3) (.t 6),none,0,0⟩,
 ⟨(some 4),.mov (.t 7),none,0,0⟩] false)
 .ret)),false⟩
def t96:AFn:=⟨1,16,[.t 2,.t 3],
 (.seq
 (.region [⟨(some 1),.box (.t 0),none,0,0⟩,
 ⟨(some 2),.mov (.c (.d (.sc (.int .i64 0)))),none,0,0⟩,
 ⟨(some 3),.mov (.c (.d (.sc (.int .i64 0)))),none,0,0⟩] false)
 (.seq
 (.seq
 (.region [⟨(some 5),.load 2 true (.t 1),none,0,0⟩,
 ⟨(some 6),.callF 92 [(.t 5)],none,0,0⟩,
 ⟨(some 4),.mov (.t 6),none,0,0⟩] false)
 (.seq
 (.region [⟨(some 7),.mov (.t 4),none,0,0⟩,
 ⟨(some 8),.bin .neq (.t 7) (.c (.d (.sc (.int .i64 0)))),none,0,0⟩] false)
 (.cond (.t 8)
 (.seq
 (.region [⟨(some 9),.mov (.t 4),none,0,0⟩,
 ⟨(some 2),.mov (.c (.d (.sc (.int .i64 0)))),none,0,0⟩,
 ⟨(some 3),.mov (.t 9),none,0,0⟩] false)
 .ret)
 .skip)))
 (.seq
 (.region [⟨(some 10),.fieldAddr 0 (.t 1),none,0,0⟩,
 ⟨(some 11),.load 1 false (.t 10),none,0,0⟩,
 ⟨(some 12),.len (.t 11),none,0,0⟩,
 ⟨(some 13),.fieldAddr 1 (.t 1),none,0,0⟩,
 ⟨(some 14),.load 1 false (.t 13),none,0,0⟩,
 ⟨(some 15),.bin .sub (.t 12) (.t 14),none,0,0⟩,
 ⟨(some 2),.mov (.t 15),none,0,0⟩,
 ⟨(some 3),.mov (.c (.d (.sc (.int .i64 0)))),none,0,0⟩] false)
 .ret))),false⟩
def t97:AFn:=⟨2,111,[.cell 4 2 true,.t 5,.t 6],
 (.seq
 (.region [⟨(some 2),.box (.t 0),none,0,0⟩,
 ⟨(some 4),.alloc [(.own [] .full),(.d (.sc (.int .i64 0)))],none,0,0⟩,
 ⟨(some 5),.mov (.c (.own [] .full)),none,0,0⟩,
 ⟨(some 6),.mov (.c (.d (.sc (.int .i64 0)))),none,0,0⟩] false)
 (.seq
 (.region [⟨(some 7),.mov (.c (.clo 114 [])),none,0,0⟩] false)
 (.seq
 (.seq
 (.region [⟨(some 18),.load 2 true (.t 2),none,0,0⟩,
 ⟨(some 19),.callF 96 [(.t 18)],none,0,0⟩,
 ⟨(some 17),.mov (.t 19),none,0,0⟩,
 ⟨(some 20),.extract (.t 17) 0,none,0,0⟩,
 ⟨(some 21),.extract (.t 17) 1,none,0,0⟩,
 ⟨(some 8),.mov (.t 20),none,0,0⟩,
 ⟨(some 9),.mov (.t 21),none,0,0⟩] false)
 (.seq
 (.region [⟨(some 22),.mov (.t 9),none,0,0⟩,
 ⟨(some 23),.bin .neq (.t 22) (.c (.d (.sc (.int .i64 0)))),none,0,0⟩] false)
 (.cond (.t 23)
 (.seq
 (.region [⟨(some 24),.mov (.t 7),none,0,0⟩,
 ⟨(some 25),.mov (.t 9),none,0,0⟩,
 ⟨(some 26),.callv (.t 24) [(.t 25)],none,0,0⟩,
 ⟨(some 27),.extract (.t 26) 0,none,0,0⟩,
 ⟨(some 28),.extract (.t 26) 1,none,0,0⟩,
 ⟨(some 29),.extract (.t 26) 2,none,0,0⟩,
 ⟨none,.store 2 (.t 4) (.t 27),none,0,0⟩,
 ⟨(some 5),.mov (.t 28),none,0,0⟩,
 ⟨(some 6),.mov (.t 29),none,0,0⟩] false)
 .ret)
 .skip)))
 (.seq
 (.seq
 (.region [⟨(some 30),.mov (.t 1),none,0,0⟩,
 ⟨(some 31),.callF 103 [(.t 30)],none,0,0⟩,
 ⟨(some 10),.mov (.t 31),none,0,0⟩] false)
 (.seq
 (.region [⟨(some 32),.mov (.t 10),none,0,0⟩,
 ⟨(some 33),.bin .neq (.t 32) (.c (.d (.sc (.int .i64 0)))),none,0,0⟩] false)
 (.cond (.t 33)
 (.seq
 (.region [⟨(some 34),.mov (.t 7),none,0,0⟩,
 ⟨(some 35),.mov (.t 10),none,0,0⟩,
 ⟨(some 36),.callv (.t 34) [(.t 35)],none,0,0⟩,
 ⟨(some 37),.extract (.t 36) 0,none,0,0⟩,
 ⟨(some 38),.extract (.t 36) 1,none,0,0⟩,
 ⟨(some 39),.extract (.t 36) 2,none,0,0⟩,
 ⟨none,.store 2 (.t 4) (.t 37),none,0,0⟩,
 ⟨(some 5),.mov (.t 38),none,0,0⟩,
 ⟨(some 6),.mov (.t 39),none,0,0⟩] false)
 .ret)
 .skip)))
 (.seq
 (.region [⟨(some 41),.load 2 true (.t 2),none,0,0⟩,
 ⟨(some 42),.mov (.t 1),none,0,0⟩,
 ⟨(some 43),.conv .u64 (.t 42),none,0,0⟩,
 ⟨(some 44),.call 68 [(.t 41),(.t 43)],none,0,0⟩,
 ⟨(some 40),.mov (.t 44),none,0,0⟩,
 ⟨(some 45),.extract (.t 40) 0,none,0,0⟩,
 ⟨(some 46),.extract (.t 40) 1,none,0,0⟩,
 ⟨(some 47),.extract (.t 40) 2,none,0,0⟩,
 ⟨none,.store 2 (.t 2) (.t 45),none,0,0⟩,
 ⟨(some 11),.mov (.t 46),none,0,0⟩,
 ⟨(some 12),.mov (.t 47),none,0,0⟩] false)
 (.seq
 (.seq
 (.region [⟨(some 48),.mov (.t 12),none,0,0⟩,
 ⟨(some 49),.bin .neq (.t 48) (.c (.d (.sc (.int .i64 0)))),none,0,0⟩] false)
 (.cond (.t 49)
 (.seq
 (.region [⟨(some 50),.mov (.t 7),none,0,0⟩,
 ⟨(some 51),.mov (.t 12),none,0,0⟩,
 ⟨(some 52),.callv (.t 50) [(.t 51)],none,0,0⟩,
 ⟨(some 53),.extract (.t 52) 0,none,0,0⟩,
 ⟨(some 54),.extract (.t 52) 1,none,0,0⟩,
 ⟨(some 55),.extract (.t 52) 2,none,0,0⟩,
 ⟨none,.store 2 (.t 4) (.t 53),none,0,0⟩,
 ⟨(some 5),.mov (.t 54),none,0,0⟩,
 ⟨(some 6),.mov (.t 55),none,0,0⟩] false)
 .ret)
 .skip))
 (.seq
 (.region [⟨(some 13),.mov (.c (.own [] .full)),none,0,0⟩] false)
 (.seq
 (.region [⟨(some 14),.mov (.c (.d (.sc (.int .i64 0)))),none,0,0⟩] false)
 (.seq
 (.seq
 (.region [⟨(some 56),.mov (.t 11),none,0,0⟩,
 ⟨(some 57),.conv .i64 (.t 56),none,0,0⟩,
 ⟨(some 58),.mov (.c (.d (.sc (.int .i64 0)))),none,0,0⟩] false)
 (.block 0
 (.loop
 (.seq
 (.region [⟨(some 59),.bin .lss (.t 58) (.t 57),none,0,0⟩] false)
 (.seq
 (.cond (.t 59)
 .skip
 (.exit 0))
 (.seq
 (.block 1
 (.seq
 (.region [⟨(some 15),.mov (.c (.d (.sc (.int .u64 0)))),none,0,0⟩,
 ⟨(some 16),.mov (.c (.d (.sc (.int .u64 0)))),none,0,0⟩] false)
 (.seq
 (.seq
 (.region [⟨(some 61),.load 2 true (.t 2),none,0,0⟩,
 ⟨(some 62),.call 68 [(.t 61),(.c (.d (.sc (.int .u64 18446744073709551615))))],none,0,0⟩,
 ⟨(some 60),.mov (.t 62),none,0,0⟩,
 ⟨(some 63),.extract (.t 60) 0,none,0,0⟩,
 ⟨(some 64),.extract (.t 60) 1,none,0,0⟩,
 ⟨(some 65),.extract (.t 60) 2,none,0,0⟩,
 ⟨none,.store 2 (.t 2) (.t 63),none,0,0⟩,
 ⟨(some 15),.mov (.t 64),none,0,0⟩,
 ⟨(some 12),.mov (.t 65),none,0,0⟩] false)
 (.seq
 (.region [⟨(some 66),.mov (.t 12),none,0,0⟩,
 ⟨(some 67),.bin .neq (.t 66) (.c (.d (.sc (.int .i64 0)))),none,0,0⟩] false)
 (.cond (.t 67)
 (.seq
 (.region [⟨(some 68),.mov (.t 7),none,0,0⟩,
 ⟨(some 69),.mov (.t 12),none,0,0⟩,
 ⟨(some 70),.callv (.t 68) [(.t 69)],none,0,0⟩,
 ⟨(some 71),.extract (.t 70) 0,none,0,0⟩,
 ⟨(some 72),.extract (.t 70) 1,none,0,0⟩,
 ⟨(some 73),.extract (.t 70) 2,none,0,0⟩,
 ⟨none,.store 2 (.t 4) (.t 71),none,0,0⟩,
 ⟨(some 5),.mov (.t 72),none,0,0⟩,
 ⟨(some 6),.mov (.t 73),none,0,0⟩] false)
 .ret)
 .skip)))
 (.seq
 (.seq
 (.region [⟨(some 75),.load 2 true (.t 2),none,0,0⟩,
 ⟨(some 76),.call 68 [(.t 75),(.c (.d (.sc (.int .u64 18446744073709551615))))],none,0,0⟩,
 ⟨(some 74),.mov (.t 76),none,0,0⟩,
 ⟨(some 77),.extract (.t 74) 0,none,0,0⟩,
 ⟨(some 78),.extract (.t 74) 1,none,0,0⟩,
 ⟨(some 79),.extract (.t 74) 2,none,0,0⟩,
 ⟨none,.store 2 (.t 2) (.t 77),none,0,0⟩,
 ⟨(some 16),.mov (.t 78),none,0,0⟩,
 ⟨(some 12),.mov (.t 79),none,0,0⟩] false)
 (.seq
 (.region [⟨(some 80),.mov (.t 12),none,0,0⟩,
 ⟨(some 81),.bin .neq (.t 80) (.c (.d (.sc (.int .i64 0)))),none,0,0⟩] false)
 (.cond (.t 81)
 (.seq
 (.region [⟨(some 82),.mov (.t 7),none,0,0⟩,
 ⟨(some 83),.mov (.t 12),none,0,0⟩,
 ⟨(some 84),.callv (.t 82) [(.t 83)],none,0,0⟩,
 ⟨(some 85),.extract (.t 84) 0,none,0,0⟩,
 ⟨(some 86),.extract (.t 84) 1,none,0,0⟩,
 ⟨(some 87),.extract (.t 84) 2,none,0,0⟩,
 ⟨none,.store 2 (.t 4) (.t 85),none,0,0⟩,
 ⟨(some 5),.mov (.t 86),none,0,0⟩,
 ⟨(some 6),.mov (.t 87),none,0,0⟩] false)
 .ret)
 .skip)))
 (.seq
 (.region [⟨(some 88),.mov (.t 14),none,0,0⟩,
 ⟨(some 89),.mov (.t 15),none,0,0⟩,
 ⟨(some 90),.mini (.t 89) (.c (.d (.sc (.int .u64 200)))),none,0,0⟩,
 ⟨(some 91),.conv .i64 (.t 90),none,0,0⟩,
 ⟨(some 92),.bin .add (.t 88) (.t 91),none,0,0⟩,
 ⟨(some 14),.mov (.t 92),none,0,0⟩] false)
 (.region [⟨(some 93),.mov (.t 13),none,0,0⟩,
 ⟨(some 94),.mov (.t 14),none,0,0⟩,
 ⟨(some 95),.mov (.t 16),none,0,0⟩,
 ⟨(some 96),.build [(.d (.sc (.int .i64 0))),(.d (.sc (.int .u64 0)))] [(0,1,(.t 94)),(1,1,(.t 95))],none,0,0⟩,
 ⟨(some 97),.buildSlice 2 1 [(.sc (.int .i64 0)),(.sc (.int .u64 0))] [(0,(.t 96))],none,0,0⟩,
 ⟨(some 98),.append 2 16 (.t 93) (.t 97),none,0,0⟩,
 ⟨(some 13),.mov (.t 98),none,0,0⟩] false))))))
 (.region [⟨(some 99),.bin .add (.t 58) (.c (.d (.sc (.int .i64 1)))),none,0,0⟩,
 ⟨(some 58),.mov (.t 99),none,0,0⟩] false)))))))
 (.seq
 (.seq
 (.region [⟨(some 100),.mov (.t 13),none,0,0⟩,
 ⟨(some 101),.mov (.t 1),none,0,0⟩,
 ⟨(some 102),.callF 104 [(.t 100),(.t 101)],none,0,0⟩,
 ⟨(some 103),.un .not (.t 102),none,0,0⟩] false)
 (.cond (.t 103)
 (.seq
 (.region [⟨(some 104),.mov (.t 7),none,0,0⟩,
 ⟨(some 105),.callv (.t 104) [(.c (.d (.sc (.int .i64 12))))],none,0,0⟩,
 ⟨(some 106),.extract (.t 105) 0,none,0,0⟩,
 ⟨(some 107),.extract (.t 105) 1,none,0,0⟩,
 ⟨(some 108),.extract (.t 105) 2,none,0,0⟩,
 ⟨none,.store 2 (.t 4) (.t 106),none,0,0⟩,
 ⟨(some 5),.mov (.t 107),none,0,0⟩,
 ⟨(some 6),.mov (.t 108),none,0,0⟩] false)
 .ret)
 .skip))
 (.seq
 (.region [⟨(some 109),.load 2 true (.t 2),none,0,0⟩,
 ⟨(some 110),.mov (.t 13),none,0,0⟩,
 ⟨none,.store 2 (.t 4) (.t 109),none,0,0⟩,
 ⟨(some 5),.mov (.t 110),none,0,0⟩,
 ⟨(some 6),.mov (.c (.d (.sc (.int .i64 0)))),none,0,0⟩] false)
 .ret))))))))))),false⟩
def t98:AFn:=⟨2,12,[.t 4],
 (.seq
 (.region [⟨(some 4),.mov (.c (.d (.sc (.bool false)))),none,0,0⟩] false)
 (.seq
 (.region [⟨(some 5),.mov (.t 0),none,0,0⟩,
 ⟨(some 6),.bin .geq (.t 5) (.c (.d (.sc (.int .i64 0)))),none,0,0⟩,
 ⟨(some 7),.mov (.t 6),none,0,0⟩,
 ⟨(some 8),.mov (.t 0),(some (7,true)),0,0⟩,
 ⟨(some 9),.mov (.t 1),(some (7,true)),0,0⟩,
 ⟨(some 10),.bin .lss (.t 8) (.t 9),(some (7,true)),0,0⟩,
 ⟨(some 11),.pick (.t 7) (.t 10) (.c (.d (.sc (.bool false)))),none,0,0⟩,
 ⟨(some 4),.mov (.t 11),none,0,0⟩] false)
 .ret)),false⟩
def t99:AFn:=⟨1,6,[.t 2],
 (.seq
 (.region [⟨(some 2),.mov (.c (.d (.sc (.bool false)))),none,0,0⟩] false)
 (.seq
 (.region [⟨(some 3),.mov (.t 0),none,0,0⟩,
 ⟨(some 4),.callF 115 [(.t 3),(.c (.clo 116 []))],none,0,0⟩,
 ⟨(some 5),.un .not (.t 4),none,0,0⟩,
 ⟨(some 2),.mov (.t 5),none,0,0⟩] false)
 .ret)),false⟩
def t100:AFn:=⟨1,77,[.t 2],
 (.seq
 (.region [⟨(some 2),.mov (.c (.own [] .full)),none,0,0⟩] false)
 (.seq
 (.region [⟨(some 7),.mov (.t 0),none,0,0⟩,
 ⟨(some 8),.len (.t 7),none,0,0⟩,
 ⟨(some 9),.makeSlice 2 16 [(.sc (.int .i64 0)),(.sc (.int .i64 0))] (.t 8) (.t 8),none,0,1⟩,
 ⟨(some 3),.mov (.t 9),none,0,0⟩] false)
 (.seq
 (.seq
 (.region [⟨(some 10),.mov (.t 0),none,0,0⟩,
 ⟨(some 11),.len (.t 10),none,0,0⟩,
 ⟨(some 12),.mov (.c (.d (.sc (.int .i64 0)))),none,0,0⟩] false)
 (.block 0
 (.loop
 (.seq
 (.region [⟨(some 13),.bin .lss (.t 12) (.t 11),none,0,0⟩] false)
 (.seq
 (.cond (.t 13)
 .skip
 (.exit 0))
 (.seq
 (.block 1
 (.seq
 (.region [⟨(some 14),.mov (.t 12),none,0,0⟩,
 ⟨(some 15),.indexAddr 4 (.t 10) (.t 12),none,0,0⟩,
 ⟨(some 16),.load 4 true (.t 15),none,0,0⟩,
 ⟨(some 5),.alloc [(.d (.sc (.int .u8 0))),(.d (.sc (.int .i64 0))),(.d (.sc (.int .i64 0))),(.own [] .full)],none,0,0⟩,
 ⟨(some 4),.mov (.t 14),none,0,0⟩,
 ⟨none,.store 4 (.t 5) (.t 16),none,0,0⟩] false)
 (.seq
 (.region [⟨(some 17),.fieldAddr 0 (.t 5),none,0,0⟩,
 ⟨(some 18),.load 1 false (.t 17),none,0,0⟩] false)
 (.block 2
 (.seq
 (.region [⟨(some 20),.bin .eql (.t 18) (.c (.d (.sc (.int .u8 1)))),none,0,0⟩,
 ⟨(some 19),.mov (.t 20),none,0,0⟩] false)
 (.cond (.t 19)
 (.region [⟨(some 21),.mov (.t 3),none,0,0⟩,
 ⟨(some 22),.mov (.t 4),none,0,0⟩,
 ⟨(some 23),.build [(.d (.sc (.int .i64 0))),(.d (.sc (.int .i64 0)))] [(0,1,(.c (.d (.sc (.int .i64 1))))),(1,1,(.c (.d (.sc (.int .i64 1)))))],none,0,0⟩,
 ⟨(some 24),.indexAddr 2 (.t 21) (.t 22),none,0,0⟩,
 ⟨none,.store 2 (.t 24) (.t 23),none,0,0⟩] false)
 (.seq
 (.seq
 (.region [⟨(some 26),.bin .eql (.t 18) (.c (.d (.sc (.int .u8 2)))),none,0,0⟩,
 ⟨(some 25),.mov (.t 26),none,0,0⟩] false)
 (.cond (.t 25)
 .skip
 (.region [⟨(some 27),.bin .eql (.t 18) (.c (.d (.sc (.int .u8 4)))),none,0,0⟩,
 ⟨(some 25),.mov (.t 27),none,0,0⟩] false)))
 (.cond (.t 25)
 (.region [⟨(some 28),.mov (.t 3),none,0,0⟩,
 ⟨(some 29),.mov (.t 4),none,0,0⟩,
 ⟨(some 30),.build [(.d (.sc (.int .i64 0))),(.d (.sc (.int .i64 0)))] [(0,1,(.c (.d (.sc (.int .i64 8))))),(1,1,(.c (.d (.sc (.int .i64 8)))))],none,0,0⟩,
 ⟨(some 31),.indexAddr 2 (.t 28) (.t 29),none,0,0⟩,
 ⟨none,.store 2 (.t 31) (.t 30),none,0,0⟩] false)
 (.seq
 (.region [⟨(some 33),.bin .eql (.t 18) (.c (.d (.sc (.int .u8 3)))),none,0,0⟩,
 ⟨(some 32),.mov (.t 33),none,0,0⟩] false)
 (.cond (.t 32)
 (.region [⟨(some 34),.mov (.t 3),none,0,0⟩,
 ⟨(some 35),.mov (.t 4),none,0,0⟩,
 ⟨(some 36),.build [(.d (.sc (.int .i64 0))),(.d (.sc (.int .i64 0)))] [(0,1,(.c (.d (.sc (.int .i64 16))))),(1,1,(.c (.d (.sc (.int .i64 8)))))],none,0,0⟩,
 ⟨(some 37),.indexAddr 2 (.t 34) (.t 35),none,0,0⟩,
 ⟨none,.store 2 (.t 37) (.t 36),none,0,0⟩] false)
 (.seq
 (.region [⟨(some 39),.bin .eql (.t 18) (.c (.d (.sc (.int .u8 7)))),none,0,0⟩,
 ⟨(some 38),.mov (.t 39),none,0,0⟩] false)
 (.cond (.t 38)
 (.region [⟨(some 40),.mov (.t 3),none,0,0⟩,
 ⟨(some 41),.mov (.t 4),none,0,0⟩,
 ⟨(some 42),.build [(.d (.sc (.int .i64 0))),(.d (.sc (.int .i64 0)))] [(0,1,(.c (.d (.sc (.int .i64 24))))),(1,1,(.c (.d (.sc (.int .i64 8)))))],none,0,0⟩,
 ⟨(some 43),.indexAddr 2 (.t 40) (.t 41),none,0,0⟩,
 ⟨none,.store 2 (.t 43) (.t 42),none,0,0⟩] false)
 (.seq
 (.region [⟨(some 45),.bin .eql (.t 18) (.c (.d (.sc (.int .u8 6)))),none,0,0⟩,
 ⟨(some 44),.mov (.t 45),none,0,0⟩] false)
 (.cond (.t 44)
 (.seq
 (.region [⟨(some 46),.mov (.t 3),none,0,0⟩,
 ⟨(some 47),.fieldAddr 1 (.t 5),none,0,0⟩,
 ⟨(some 48),.load 1 false (.t 47),none,0,0⟩,
 ⟨(some 49),.indexAddr 2 (.t 46) (.t 48),none,0,0⟩,
 ⟨(some 50),.load 2 true (.t 49),none,0,0⟩,
 ⟨(some 6),.alloc [(.d (.sc (.int .i64 0))),(.d (.sc (.int .i64 0)))],none,0,0⟩,
 ⟨none,.store 2 (.t 6) (.t 50),none,0,0⟩] false)
 (.region [⟨(some 51),.mov (.t 3),none,0,0⟩,
 ⟨(some 52),.mov (.t 4),none,0,0⟩,
 ⟨(some 53),.fieldAddr 2 (.t 5),none,0,0⟩,
 ⟨(some 54),.load 1 false (.t 53),none,0,0⟩,
 ⟨(some 55),.fieldAddr 0 (.t 6),none,0,0⟩,
 ⟨(some 56),.load 1 false (.t 55),none,0,0⟩,
 ⟨(some 57),.bin .mul (.t 54) (.t 56),none,0,0⟩,
 ⟨(some 58),.mini (.c (.d (.sc (.int .i64 1048576)))) (.t 57),none,0,0⟩,
 ⟨(some 59),.fieldAddr 1 (.t 6),none,0,0⟩,
 ⟨(some 60),.load 1 false (.t 59),none,0,0⟩,
 ⟨(some 61),.build [(.d (.sc (.int .i64 0))),(.d (.sc (.int .i64 0)))] [(0,1,(.t 58)),(1,1,(.t 60))],none,0,0⟩,
 ⟨(some 62),.indexAddr 2 (.t 51) (.t 52),none,0,0⟩,
 ⟨none,.store 2 (.t 62) (.t 61),none,0,0⟩] false))
 (.seq
 (.region [⟨(some 64),.bin .eql (.t 18) (.c (.d (.sc (.int .u8 5)))),none,0,0⟩,
 ⟨(some 63),.mov (.t 64),none,0,0⟩] false)
 (.cond (.t 63)
 (.region [⟨(some 66),.mov (.t 3),none,0,0⟩,
 ⟨(some 67),.mov (.t 4),none,0,0⟩,
 ⟨(some 68),.mov (.t 3),none,0,0⟩,
 ⟨(some 69),.fieldAddr 3 (.t 5),none,0,0⟩,
 ⟨(some 70),.load 1 false (.t 69),none,0,0⟩,
 ⟨(some 71),.call 117 [(.t 68),(.t 70)],none,0,0⟩,
 ⟨(some 65),.mov (.t 71),none,0,0⟩,
 ⟨(some 72),.extract (.t 65) 0,none,0,0⟩,
 ⟨(some 73),.extract (.t 65) 1,none,0,0⟩,
 ⟨(some 74),.indexAddr 2 (.t 66) (.t 67),none,0,0⟩,
 ⟨none,.store 2 (.t 74) (.t 73),none,0,0⟩] false)
 .skip))))))))))))))))
 (.region [⟨(some 75),.bin .add (.t 12) (.c (.d (.sc (.int .i64 1)))),none,0,0⟩,
 ⟨(some 12),.mov (.t 75),none,0,0⟩] false)))))))
 (.seq
 (.region [⟨(some 76),.mov (.t 3),none,0,0⟩,
 ⟨(some 2),.mov (.t 76),none,0,0⟩] false)
 .ret)))),false⟩
def t101:AFn:=⟨2,9,[.t 4],
 (.seq
 (.region [⟨(some 4),.mov (.c (.d (.sc (.bool false)))),none,0,0⟩] false)
 (.seq
 (.region [⟨(some 5),.mov (.t 0),none,0,0⟩,
 ⟨(some 6),.mov (.t 1),none,0,0⟩,
 ⟨(some 7),.callF 118 [(.t 5),(.t 6)],none,0,0⟩,
 ⟨(some 8),.bin .geq (.t 7) (.c (.d (.sc (.int .i64 0)))),none,0,0⟩,
 ⟨(some 4),.mov (.t 8),none,0,0⟩] false)
 .ret)),true⟩
def t102:AFn:=⟨2,9,[.t 3],
 (.seq
 (.region [⟨(some 2),.box (.t 0),none,0,0⟩,
 ⟨(some 3),.mov (.c (.d (.sc (.bool false)))),none,0,0⟩] false)
 (.seq
 (.region [⟨(some 4),.fieldAddr 0 (.t 2),none,0,0⟩,
 ⟨(some 5),.load 1 false (.t 4),none,0,0⟩,
 ⟨(some 6),.fieldAddr 0 (.t 1),none,0,0⟩,
 ⟨(some 7),.load 1 false (.t 6),none,0,0⟩,
 ⟨(some 8),.bin .eql (.t 5) (.t 7),none,0,0⟩,
 ⟨(some 3),.mov (.t 8),none,0,0⟩] false)
 .ret)),true⟩
def t103:AFn:=⟨1,9,[.t 2],
 (.seq
 (.region [⟨(some 2),.mov (.c (.d (.sc (.int .i64 0)))),none,0,0⟩] false)
 (.seq
 (.seq
 (.region [⟨(some 3),.mov (.t 0),none,0,0⟩,
 ⟨(some 4),.bin .lss (.t 3) (.c (.d (.sc (.int .i64 1)))),none,0,0⟩,
 ⟨(some 5),.mov (.t 4),none,0,0⟩,
 ⟨(some 6),.mov (.t 0),(some (5,false)),0,0⟩,
 ⟨(some 7),.bin .gtr (.t 6) (.c (.d (.sc (.int .i64 200)))),(some (5,false)),0,0⟩,
 ⟨(some 8),.pick (.t 5) (.c (.d (.sc (.bool true)))) (.t 7),none,0,0⟩] false)
 (.cond (.t 8)
 (.seq
 (.region [⟨(some 2),.mov (.c (.d (.sc (.int .i64 2)))),none,0,0⟩] false)
 .ret)
 .skip))
 (.seq
 (.region [⟨(some 2),.mov (.c (.d (.sc (.int .i64 0)))),none,0,0⟩] false)
 .ret))),false⟩
def t104:AFn:=⟨2,55,[.t 4],
 (.seq
 (.region [⟨(some 4),.mov (.c (.d (.sc (.bool false)))),none,0,0⟩] false)
 (.seq
 (.seq
 (.region [⟨(some 8),.mov (.t 0),none,0,0⟩,
 ⟨(some 9),.len (.t 8),none,0,0⟩,
 ⟨(some 10),.bin .eql (.t 9) (.c (.d (.sc (.int .i64 0)))),none,0,0⟩,
 ⟨(some 11),.mov (.t 10),none,0,0⟩,
 ⟨(some 12),.mov (.t 0),(some (11,false)),0,0⟩,
 ⟨(some 13),.indexAddr 2 (.t 12) (.c (.d (.sc (.int .i64 0)))),(some (11,false)),0,0⟩,
 ⟨(some 14),.fieldAddr 0 (.t 13),(some (11,false)),0,0⟩,
 ⟨(some 15),.load 1 false (.t 14),(some (11,false)),0,0⟩,
 ⟨(some 16),.bin .neq (.t 15) (.c (.d (.sc (.int .i64 0)))),(some (11,false)),0,0⟩,
 ⟨(some 17),.pick (.t 11) (.c (.d (.sc (.bool true)))) (.t 16),none,0,0⟩,
 ⟨(some 18),.mov (.t 17),none,0,0⟩,
 ⟨(some 19),.mov (.t 0),(some (18,false)),0,0⟩,
 ⟨(some 20),.mov (.t 0),(some (18,false)),0,0⟩,
 ⟨(some 21),.len (.t 20),(some (18,false)),0,0⟩,
 ⟨(some 22),.bin .sub (.t 21) (.c (.d (.sc (.int .i64 1)))),(some (18,false)),0,0⟩,
 ⟨(some 23),.indexAddr 2 (.t 19) (.t 22),(some (18,false)),0,0⟩,
 ⟨(some 24),.fieldAddr 0 (.t 23),(some (18,false)),0,0⟩,
 ⟨(some 25),.load 1 false (.t 24),(some (18,false)),0,0⟩,
 ⟨(some 26),.mov (.t 1),(some (18,false)),0,0⟩,
 ⟨(some 27),.bin .geq (.t 25) (.t 26),(some (18,false)),0,0⟩,
 ⟨(some 28),.pick (.t 18) (.c (.d (.sc (.bool true)))) (.t 27),none,0,0⟩] false)
 (.cond (.t 28)
 (.seq
 (.region [⟨(some 4),.mov (.c (.d (.sc (.bool false)))),none,0,0⟩] false)
 .ret)
 .skip))
 (.seq
 (.region [⟨(some 29),.mov (.t 0),none,0,0⟩,
 ⟨(some 30),.indexAddr 2 (.t 29) (.c (.d (.sc (.int .i64 0)))),none,0,0⟩,
 ⟨(some 31),.load 2 true (.t 30),none,0,0⟩,
 ⟨(some 5),.alloc [(.d (.sc (.int .i64 0))),(.d (.sc (.int .u64 0)))],none,0,0⟩,
 ⟨none,.store 2 (.t 5) (.t 31),none,0,0⟩] false)
 (.seq
 (.seq
 (.region [⟨(some 32),.mov (.t 0),none,0,0⟩,
 ⟨(some 33),.slice 2 (.t 32) (some (.c (.d (.sc (.int .i64 1))))) none none,none,0,0⟩,
 ⟨(some 34),.len (.t 33),none,0,0⟩,
 ⟨(some 35),.mov (.c (.d (.sc (.int .i64 0)))),none,0,0⟩] false)
 (.block 0
 (.loop
 (.seq
 (.region [⟨(some 36),.bin .lss (.t 35) (.t 34),none,0,0⟩] false)
 (.seq
 (.cond (.t 36)
 .skip
 (.exit 0))
 (.seq
 (.block 1
 (.seq
 (.region [⟨(some 37),.indexAddr 2 (.t 33) (.t 35),none,0,0⟩,
 ⟨(some 38),.load 2 true (.t 37),none,0,0⟩,
 ⟨(some 7),.alloc [(.d (.sc (.int .i64 0))),(.d (.sc (.int .u64 0)))],none,0,0⟩,
 ⟨none,.store 2 (.t 7) (.t 38),none,0,0⟩] false)
 (.seq
 (.seq
 (.region [⟨(some 39),.fieldAddr 0 (.t 7),none,0,0⟩,
 ⟨(some 40),.load 1 false (.t 39),none,0,0⟩,
 ⟨(some 41),.fieldAddr 0 (.t 5),none,0,0⟩,
 ⟨(some 42),.load 1 false (.t 41),none,0,0⟩,
 ⟨(some 43),.bin .leq (.t 40) (.t 42),none,0,0⟩,
 ⟨(some 44),.mov (.t 43),none,0,0⟩,
 ⟨(some 45),.load 2 true (.t 7),(some (44,false)),0,0⟩,
 ⟨(some 46),.fieldAddr 0 (.t 7),(some (44,false)),0,0⟩,
 ⟨(some 47),.load 1 false (.t 46),(some (44,false)),0,0⟩,
 ⟨(some 48),.fieldAddr 1 (.t 5),(some (44,false)),0,0⟩,
 ⟨(some 49),.load 1 false (.t 48),(some (44,false)),0,0⟩,
 ⟨(some 50),.build [(.d (.sc (.int .i64 0))),(.d (.sc (.int .u64 0)))] [(0,1,(.t 47)),(1,1,(.t 49))],(some (44,false)),0,0⟩,
 ⟨(some 51),.eqA false 2 [(0,1),(1,1)] (.t 45) (.t 50),(some (44,false)),0,0⟩,
 ⟨(some 52),.pick (.t 44) (.c (.d (.sc (.bool true)))) (.t 51),none,0,0⟩] false)
 (.cond (.t 52)
 (.seq
 (.region [⟨(some 4),.mov (.c (.d (.sc (.bool false)))),none,0,0⟩] false)
 .ret)
 .skip))
 (.region [⟨(some 53),.load 2 true (.t 7),none,0,0⟩,
 ⟨none,.store 2 (.t 5) (.t 53),none,0,0⟩] false))))
 (.region [⟨(some 54),.bin .add (.t 35) (.c (.d (.sc (.int .i64 1)))),none,0,0⟩,
 ⟨(some 35),.mov (.t 54),none,0,0⟩] false)))))))
 (.seq
 (.region [⟨(some 4),.mov (.c (.d (.sc (.bool true)))),none,0,0⟩] false)
 .ret))))),false⟩
def t105:AFn:=⟨3,7,[],
 (.region [⟨(some 4),.sliceB 3 4 (.t 1),none,0,0⟩,
 ⟨(some 5),.mov (.t 0),none,0,0⟩,
 ⟨(some 6),.copy 4 (.t 4) (.t 5),none,0,0⟩,
 ⟨none,.store 1 (.t 2) (.t 6),none,0,0⟩] false),true⟩
def t106:AFn:=⟨0,2,[.cell 0 4 true],
 (.seq
 (.region [⟨(some 0),.alloc [(.d (.sc (.int .i64 0))),(.d (.sc (.int .i64 0))),(.d (.sc (.bool false))),(.d (.sc (.bool false)))],none,0,0⟩] false)
 (.seq
 (.region [⟨(some 1),.build [(.d (.sc (.int .i64 0))),(.d (.sc (.int .i64 0))),(.d (.sc (.bool false))),(.d (.sc (.bool false)))] [(0,1,(.c (.d (.sc (.int .i64 0))))),(1,1,(.c (.d (.sc (.int .i64 15))))),(2,1,(.c (.d (.sc (.bool false))))),(3,1,(.c (.d (.sc (.bool true)))))],none,0,0⟩,
 ⟨none,.store 4 (.t 0) (.t 1),none,0,0⟩] false)
 .ret)),false⟩
def t107:AFn:=⟨0,2,[.cell 0 4 true],
 (.seq
 (.region [⟨(some 0),.alloc [(.d (.sc (.int .i64 0))),(.d (.sc (.int .i64 0))),(.d (.sc (.bool false))),(.d (.sc (.bool false)))],none,0,0⟩] false)
 (.seq
 (.region [⟨(some 1),.build [(.d (.sc (.int .i64 0))),(.d (.sc (.int .i64 0))),(.d (.sc (.bool false))),(.d (.sc (.bool false)))] [(0,1,(.c (.d (.sc (.int .i64 (-9223372036854775808)))))),(1,1,(.c (.d (.sc (.int .i64 9223372036854775807))))),(2,1,(.c (.d (.sc (.bool false))))),(3,1,(.c (.d (.sc (.bool false)))))],none,0,0⟩,
 ⟨none,.store 4 (.t 0) (.t 1),none,0,0⟩] false)
 .ret)),false⟩
def t108:AFn:=⟨1,6,[.cell 2 4 true],
 (.seq
 (.region [⟨(some 2),.alloc [(.d (.sc (.int .i64 0))),(.d (.sc (.int .i64 0))),(.d (.sc (.bool false))),(.d (.sc (.bool false)))],none,0,0⟩] false)
 (.seq
 (.region [⟨(some 3),.mov (.t 0),none,0,0⟩,
 ⟨(some 4),.bin .sub (.t 3) (.c (.d (.sc (.int .i64 1)))),none,0,0⟩,
 ⟨(some 5),.build [(.d (.sc (.int .i64 0))),(.d (.sc (.int .i64 0))),(.d (.sc (.bool false))),(.d (.sc (.bool false)))] [(0,1,(.c (.d (.sc (.int .i64 0))))),(1,1,(.t 4)),(2,1,(.c (.d (.sc (.bool false))))),(3,1,(.c (.d (.sc (.bool false)))))],none,0,0⟩,
 ⟨none,.store 4 (.t 2) (.t 5),none,0,0⟩] false)
 .ret)),false⟩
def t109:AFn:=⟨0,2,[.cell 0 4 true],
 (.seq
 (.region [⟨(some 0),.alloc [(.d (.sc (.int .i64 0))),(.d (.sc (.int .i64 0))),(.d (.sc (.bool false))),(.d (.sc (.bool false)))],none,0,0⟩] false)
 (.seq
 (.region [⟨(some 1),.build [(.d (.sc (.int .i64 0))),(.d (.sc (.int .i64 0))),(.d (.sc (.bool false))),(.d (.sc (.bool false)))] [(0,1,(.c (.d (.sc (.int .i64 0))))),(1,1,(.c (.d (.sc (.int .i64 15))))),(2,1,(.c (.d (.sc (.bool true))))),(3,1,(.c (.d (.sc (.bool false)))))],none,0,0⟩,
 ⟨none,.store 4 (.t 0) (.t 1),none,0,0⟩] false)
 .ret)),false⟩
def t114:AFn:=⟨1,7,[.cell 2 2 true,.t 3,.t 4],
 (.seq
 (.region [⟨(some 2),.alloc [(.own [] .full),(.d (.sc (.int .i64 0)))],none,0,0⟩,
 ⟨(some 3),.mov (.c (.own [] .full)),none,0,0⟩,
 ⟨(some 4),.mov (.c (.d (.sc (.int .i64 0)))),none,0,0⟩] false)
 (.seq
 (.region [⟨(some 5),.build [(.own [] .full),(.d (.sc (.int .i64 0)))] [],none,0,0⟩,
 ⟨(some 6),.mov (.t 0),none,0,0⟩,
 ⟨none,.store 2 (.t 2) (.t 5),none,0,0⟩,
 ⟨(some 3),.mov (.c (.own [] .full)),none,0,0⟩,
 ⟨(some 4),.mov (.t 6),none,0,0⟩] false)
 .ret)),false⟩
def t115:AFn:=⟨2,9,[.t 4],
 (.seq
 (.region [⟨(some 4),.mov (.c (.d (.sc (.bool false)))),none,0,0⟩] false)
 (.seq
 (.region [⟨(some 5),.mov (.t 0),none,0,0⟩,
 ⟨(some 6),.mov (.t 1),none,0,0⟩,
 ⟨(some 7),.callF 119 [(.t 5),(.t 6)],none,0,0⟩,
 ⟨(some 8),.bin .geq (.t 7) (.c (.d (.sc (.int .i64 0)))),none,0,0⟩,
 ⟨(some 4),.mov (.t 8),none,0,0⟩] false)
 .ret)),true⟩
def t116:AFn:=⟨1,5,[.t 2],
 (.seq
 (.region [⟨(some 2),.mov (.c (.d (.sc (.bool false)))),none,0,0⟩] false)
 (.seq
 (.region [⟨(some 3),.mov (.t 0),none,0,0⟩,
 ⟨(some 4),.bin .neq (.t 3) (.c (.d (.sc (.int .i64 0)))),none,0,0⟩,
 ⟨(some 2),.mov (.t 4),none,0,0⟩] false)
 .ret)),false⟩
def t117:AFn:=⟨2,68,[.t 4,.cell 5 2 true],
 (.seq
 (.region [⟨(some 4),.mov (.c (.own [] .full)),none,0,0⟩,
 ⟨(some 5),.alloc [(.d (.sc (.int .i64 0))),(.d (.sc (.int .i64 0)))],none,0,0⟩] false)
 (.seq
 (.region [⟨(some 11),.mov (.t 1),none,0,0⟩,
 ⟨(some 12),.len (.t 11),none,0,0⟩,
 ⟨(some 13),.makeSlice 1 8 [(.sc (.int .i64 0))] (.t 12) (.t 12),none,0,1⟩,
 ⟨(some 14),.build [(.d (.sc (.int .i64 0))),(.d (.sc (.int .i64 0)))] [(0,1,(.c (.d (.sc (.int .i64 0))))),(1,1,(.c (.d (.sc (.int .i64 1)))))],none,0,0⟩,
 ⟨(some 7),.alloc [(.d (.sc (.int .i64 0))),(.d (.sc (.int .i64 0)))],none,0,0⟩,
 ⟨(some 6),.mov (.t 13),none,0,0⟩,
 ⟨none,.store 2 (.t 7) (.t 14),none,0,0⟩] false)
 (.seq
 (.seq
 (.region [⟨(some 15),.mov (.t 1),none,0,0⟩,
 ⟨(some 16),.len (.t 15),none,0,0⟩,
 ⟨(some 17),.mov (.c (.d (.sc (.int .i64 0)))),none,0,0⟩] false)
 (.block 0
 (.loop
 (.seq
 (.region [⟨(some 18),.bin .lss (.t 17) (.t 16),none,0,0⟩] false)
 (.seq
 (.cond (.t 18)
 .skip
 (.exit 0))
 (.seq
 (.block 1
 (.seq
 (.region [⟨(some 19),.mov (.t 17),none,0,0⟩,
 ⟨(some 20),.indexAddr 2 (.t 15) (.t 17),none,0,0⟩,
 ⟨(some 21),.load 2 true (.t 20),none,0,0⟩,
 ⟨(some 9),.alloc [(.d (.sc (.string ⟨#[]⟩))),(.d (.sc (.int .i64 0)))],none,0,0⟩,
 ⟨(some 8),.mov (.t 19),none,0,0⟩,
 ⟨none,.store 2 (.t 9) (.t 21),none,0,0⟩] false)
 (.seq
 (.region [⟨(some 22),.mov (.t 0),none,0,0⟩,
 ⟨(some 23),.fieldAddr 1 (.t 9),none,0,0⟩,
 ⟨(some 24),.load 1 false (.t 23),none,0,0⟩,
 ⟨(some 25),.indexAddr 2 (.t 22) (.t 24),none,0,0⟩,
 ⟨(some 26),.load 2 true (.t 25),none,0,0⟩,
 ⟨(some 10),.alloc [(.d (.sc (.int .i64 0))),(.d (.sc (.int .i64 0)))],none,0,0⟩,
 ⟨none,.store 2 (.t 10) (.t 26),none,0,0⟩] false)
 (.seq
 (.region [⟨(some 27),.mov (.t 6),none,0,0⟩,
 ⟨(some 28),.mov (.t 8),none,0,0⟩,
 ⟨(some 29),.fieldAddr 0 (.t 7),none,0,0⟩,
 ⟨(some 30),.load 1 false (.t 29),none,0,0⟩,
 ⟨(some 31),.fieldAddr 1 (.t 10),none,0,0⟩,
 ⟨(some 32),.load 1 false (.t 31),none,0,0⟩,
 ⟨(some 33),.bin .add (.t 30) (.t 32),none,0,0⟩,
 ⟨(some 34),.bin .sub (.t 33) (.c (.d (.sc (.int .i64 1)))),none,0,0⟩,
 ⟨(some 35),.fieldAddr 1 (.t 10),none,0,0⟩,
 ⟨(some 36),.load 1 false (.t 35),none,0,0⟩,
 ⟨(some 37),.bin .sub (.t 36) (.c (.d (.sc (.int .i64 1)))),none,0,0⟩,
 ⟨(some 38),.bin .andNot (.t 34) (.t 37),none,0,0⟩,
 ⟨(some 39),.indexAddr 1 (.t 27) (.t 28),none,0,0⟩,
 ⟨none,.store 1 (.t 39) (.t 38),none,0,0⟩] false)
 (.region [⟨(some 40),.mov (.t 6),none,0,0⟩,
 ⟨(some 41),.mov (.t 8),none,0,0⟩,
 ⟨(some 42),.indexAddr 1 (.t 40) (.t 41),none,3,0⟩,
 ⟨(some 43),.load 1 false (.t 42),none,7,0⟩,
 ⟨(some 44),.fieldAddr 0 (.t 10),none,0,0⟩,
 ⟨(some 45),.load 1 false (.t 44),none,16,0⟩,
 ⟨(some 46),.bin .add (.t 43) (.t 45),none,63,0⟩,
 ⟨(some 47),.mini (.c (.d (.sc (.int .i64 1048576)))) (.t 46),none,127,0⟩,
 ⟨(some 48),.fieldAddr 1 (.t 7),none,0,0⟩,
 ⟨(some 49),.load 1 false (.t 48),none,256,0⟩,
 ⟨(some 50),.fieldAddr 1 (.t 10),none,0,0⟩,
 ⟨(some 51),.load 1 false (.t 50),none,1024,0⟩,
 ⟨(some 52),.maxi (.t 49) (.t 51),none,3840,0⟩,
 ⟨(some 53),.build [(.d (.sc (.int .i64 0))),(.d (.sc (.int .i64 0)))] [(0,1,(.t 47)),(1,1,(.t 52))],none,8191,0⟩,
 ⟨none,.store 2 (.t 7) (.t 53),none,16383,0⟩] true)))))
 (.region [⟨(some 54),.bin .add (.t 17) (.c (.d (.sc (.int .i64 1)))),none,0,0⟩,
 ⟨(some 17),.mov (.t 54),none,0,0⟩] false)))))))
 (.seq
 (.region [⟨(some 55),.fieldAddr 0 (.t 7),none,0,0⟩,
 ⟨(some 56),.load 1 false (.t 55),none,0,0⟩,
 ⟨(some 57),.fieldAddr 1 (.t 7),none,0,0⟩,
 ⟨(some 58),.load 1 false (.t 57),none,0,0⟩,
 ⟨(some 59),.bin .add (.t 56) (.t 58),none,0,0⟩,
 ⟨(some 60),.bin .sub (.t 59) (.c (.d (.sc (.int .i64 1)))),none,0,0⟩,
 ⟨(some 61),.fieldAddr 1 (.t 7),none,0,0⟩,
 ⟨(some 62),.load 1 false (.t 61),none,0,0⟩,
 ⟨(some 63),.bin .sub (.t 62) (.c (.d (.sc (.int .i64 1)))),none,0,0⟩,
 ⟨(some 64),.bin .andNot (.t 60) (.t 63),none,0,0⟩,
 ⟨(some 65),.fieldAddr 0 (.t 7),none,0,0⟩,
 ⟨none,.store 1 (.t 65) (.t 64),none,0,0⟩] false)
 (.seq
 (.region [⟨(some 66),.mov (.t 6),none,0,0⟩,
 ⟨(some 67),.load 2 true (.t 7),none,0,0⟩,
 ⟨(some 4),.mov (.t 66),none,1,0⟩,
 ⟨none,.store 2 (.t 5) (.t 67),none,7,0⟩] true)
 .ret))))),false⟩
def t118:AFn:=⟨2,19,[.t 4],
 (.seq
 (.region [⟨(some 4),.mov (.c (.d (.sc (.int .i64 0)))),none,0,0⟩] false)
 (.seq
 (.seq
 (.region [⟨(some 6),.mov (.t 0),none,0,0⟩,
 ⟨(some 7),.len (.t 6),none,0,0⟩,
 ⟨(some 8),.mov (.c (.d (.sc (.int .i64 0)))),none,0,0⟩] false)
 (.block 0
 (.loop
 (.seq
 (.region [⟨(some 9),.bin .lss (.t 8) (.t 7),none,0,0⟩] false)
 (.seq
 (.cond (.t 9)
 .skip
 (.exit 0))
 (.seq
 (.block 1
 (.seq
 (.region [⟨(some 10),.mov (.t 8),none,0,0⟩,
 ⟨(some 5),.mov (.t 10),none,0,0⟩] false)
 (.seq
 (.region [⟨(some 11),.mov (.t 1),none,0,0⟩,
 ⟨(some 12),.mov (.t 0),none,0,0⟩,
 ⟨(some 13),.mov (.t 5),none,0,0⟩,
 ⟨(some 14),.indexAddr 2 (.t 12) (.t 13),none,0,0⟩,
 ⟨(some 15),.load 2 true (.t 14),none,0,0⟩,
 ⟨(some 16),.callv (.t 11) [(.t 15)],none,0,0⟩] false)
 (.cond (.t 16)
 (.seq
 (.region [⟨(some 17),.mov (.t 5),none,0,0⟩,
 ⟨(some 4),.mov (.t 17),none,0,0⟩] false)
 .ret)
 .skip))))
 (.region [⟨(some 18),.bin .add (.t 8) (.c (.d (.sc (.int .i64 1)))),none,0,0⟩,
 ⟨(some 8),.mov (.t 18),none,0,0⟩] false)))))))
 (.seq
 (.region [⟨(some 4),.mov (.c (.d (.sc (.int .i64 (-1))))),none,0,0⟩] false)
 .ret))),true⟩
def t119:AFn:=⟨2,19,[.t 4],
 (.seq
 (.region [⟨(some 4),.mov (.c (.d (.sc (.int .i64 0)))),none,0,0⟩] false)
 (.seq
 (.seq
 (.region [⟨(some 6),.mov (.t 0),none,0,0⟩,
 ⟨(some 7),.len (.t 6),none,0,0⟩,
 ⟨(some 8),.mov (.c (.d (.sc (.int .i64 0)))),none,0,0⟩] false)
 (.block 0
 (.loop
 (.seq
 (.region [⟨(some 9),.bin .lss (.t 8) (.t 7),none,0,0⟩] false)
 (.seq
 (.cond (.t 9)
 .skip
 (.exit 0))
 (.seq
 (.block 1
 (.seq
 (.region [⟨(some 10),.mov (.t 8),none,0,0⟩,
 ⟨(some 5),.mov (.t 10),none,0,0⟩] false)
 (.seq
 (.region [⟨(some 11),.mov (.t 1),none,0,0⟩,
 ⟨(some 12),.mov (.t 0),none,0,0⟩,
 ⟨(some 13),.mov (.t 5),none,0,0⟩,
 ⟨(some 14),.indexAddr 1 (.t 12) (.t 13),none,0,0⟩,
 ⟨(some 15),.load 1 false (.t 14),none,0,0⟩,
 ⟨(some 16),.callv (.t 11) [(.t 15)],none,0,0⟩] false)
 (.cond (.t 16)
 (.seq
 (.region [⟨(some 17),.mov (.t 5),none,0,0⟩,
 ⟨(some 4),.mov (.t 17),none,0,0⟩] false)
 .ret)
 .skip))))
 (.region [⟨(some 18),.bin .add (.t 8) (.c (.d (.sc (.int .i64 1)))),none,0,0⟩,
 ⟨(some 8),.mov (.t 18),none,0,0⟩] false)))))))
 (.seq
 (.region [⟨(some 4),.mov (.c (.d (.sc (.int .i64 (-1))))),none,0,0⟩] false)
 .ret))),true⟩
def md:Nat→Eng.Mode:=fun f=>match f with
 |8=>⟨[(95,7)],false⟩
 |11=>⟨[],false⟩
 |13=>⟨[],false⟩
 |15=>⟨[],false⟩
 |17=>⟨[],false⟩
 |19=>⟨[],false⟩
 |20=>⟨[],false⟩
 |22=>⟨[],false⟩
 |24=>⟨[],false⟩
 |25=>⟨[(46,1),(5,458755)],false⟩
 |26=>⟨[(8,1)],false⟩
 |27=>⟨[],false⟩
 |30=>⟨[],false⟩
 |31=>⟨[],true⟩
 |32=>⟨[],true⟩
 |33=>⟨[],true⟩
 |34=>⟨[],true⟩
 |38=>⟨[],false⟩
 |39=>⟨[],false⟩
 |47=>⟨[],false⟩
 |48=>⟨[],false⟩
 |49=>⟨[],false⟩
 |50=>⟨[],false⟩
 |51=>⟨[],false⟩
 |52=>⟨[],false⟩
 |53=>⟨[],false⟩
 |54=>⟨[],true⟩
 |55=>⟨[(2,65540)],false⟩
 |56=>⟨[],false⟩
 |57=>⟨[],false⟩
 |58=>⟨[(20,65537)],false⟩
 |62=>⟨[],false⟩
 |63=>⟨[],false⟩
 |64=>⟨[],false⟩
 |68=>⟨[],false⟩
 |69=>⟨[(15,2)],false⟩
 |70=>⟨[],false⟩
 |71=>⟨[],false⟩
 |72=>⟨[],false⟩
 |73=>⟨[],false⟩
 |74=>⟨[],false⟩
 |75=>⟨[(27,2),(44,2),(65,2),(104,2)],false⟩
 |76=>⟨[(3,6),(17,1)],false⟩
 |77=>⟨[],false⟩
 |78=>⟨[],false⟩
 |79=>⟨[],false⟩
 |80=>⟨[],false⟩
 |81=>⟨[],false⟩
 |82=>⟨[(6,5374345221)],true⟩
 |83=>⟨[],false⟩
 |84=>⟨[],false⟩
 |92=>⟨[],false⟩
 |93=>⟨[],false⟩
 |94=>⟨[],false⟩
 |95=>⟨[],false⟩
 |96=>⟨[],false⟩
 |97=>⟨[],false⟩
 |98=>⟨[],false⟩
 |99=>⟨[],false⟩
 |100=>⟨[(9,1)],false⟩
 |101=>⟨[],true⟩
 |102=>⟨[],true⟩
 |103=>⟨[],false⟩
 |104=>⟨[],false⟩
 |105=>⟨[],true⟩
 |106=>⟨[],false⟩
 |107=>⟨[],false⟩
 |108=>⟨[],false⟩
 |109=>⟨[],false⟩
 |114=>⟨[],false⟩
 |115=>⟨[],true⟩
 |116=>⟨[],false⟩
 |117=>⟨[(13,1)],false⟩
 |118=>⟨[],true⟩
 |119=>⟨[],true⟩
 |_=>⟨[],false⟩
def lib:Nat→Option TypeId:=fun f=>match f with
 |_=>none
def tabL:List (Nat×AFn):=[(8,t8),(11,t11),(13,t13),(15,t15),(17,t17),(19,t19),(20,t20),(22,t22),(24,t24),(25,t25),(26,t26),(27,t27),(30,t30),(31,t31),(32,t32),(33,t33),(34,t34),(38,t38),(39,t39),(47,t47),(48,t48),(49,t49),(50,t50),(51,t51),(52,t52),(53,t53),(54,t54),(55,t55),(56,t56),(57,t57),(58,t58),(62,t62),(63,t63),(64,t64),(68,t68),(69,t69),(70,t70),(71,t71),(72,t72),(73,t73),(74,t74),(75,t75),(76,t76),(77,t77),(78,t78),(79,t79),(80,t80),(81,t81),(82,t82),(83,t83),(84,t84),(92,t92),(93,t93),(94,t94),(95,t95),(96,t96),(97,t97),(98,t98),(99,t99),(100,t100),(101,t101),(102,t102),(103,t103),(104,t104),(105,t105),(106,t106),(107,t107),(108,t108),(109,t109),(114,t114),(115,t115),(116,t116),(117,t117),(118,t118),(119,t119)]
def tab:Nat→Option AFn:=Go.Eng.tabAt tabL
theorem tab8:fnP Try.prog lib md 8=some t8:=by kernel_rfl
theorem tab11:fnP Try.prog lib md 11=some t11:=by kernel_rfl
theorem tab13:fnP Try.prog lib md 13=some t13:=by kernel_rfl
theorem tab15:fnP Try.prog lib md 15=some t15:=by kernel_rfl
theorem tab17:fnP Try.prog lib md 17=some t17:=by kernel_rfl
theorem tab19:fnP Try.prog lib md 19=some t19:=by kernel_rfl
theorem tab20:fnP Try.prog lib md 20=some t20:=by kernel_rfl
theorem tab22:fnP Try.prog lib md 22=some t22:=by kernel_rfl
theorem tab24:fnP Try.prog lib md 24=some t24:=by kernel_rfl
theorem tab25:fnP Try.prog lib md 25=some t25:=by kernel_rfl
theorem tab26:fnP Try.prog lib md 26=some t26:=by kernel_rfl
theorem tab27:fnP Try.prog lib md 27=some t27:=by kernel_rfl
theorem tab30:fnP Try.prog lib md 30=some t30:=by kernel_rfl
theorem tab31:fnP Try.prog lib md 31=some t31:=by kernel_rfl
theorem tab32:fnP Try.prog lib md 32=some t32:=by kernel_rfl
theorem tab33:fnP Try.prog lib md 33=some t33:=by kernel_rfl
theorem tab34:fnP Try.prog lib md 34=some t34:=by kernel_rfl
theorem tab38:fnP Try.prog lib md 38=some t38:=by kernel_rfl
theorem tab39:fnP Try.prog lib md 39=some t39:=by kernel_rfl
theorem tab47:fnP Try.prog lib md 47=some t47:=by kernel_rfl
theorem tab48:fnP Try.prog lib md 48=some t48:=by kernel_rfl
theorem tab49:fnP Try.prog lib md 49=some t49:=by kernel_rfl
theorem tab50:fnP Try.prog lib md 50=some t50:=by kernel_rfl
theorem tab51:fnP Try.prog lib md 51=some t51:=by kernel_rfl
theorem tab52:fnP Try.prog lib md 52=some t52:=by kernel_rfl
theorem tab53:fnP Try.prog lib md 53=some t53:=by kernel_rfl
theorem tab54:fnP Try.prog lib md 54=some t54:=by kernel_rfl
theorem tab55:fnP Try.prog lib md 55=some t55:=by kernel_rfl
theorem tab56:fnP Try.prog lib md 56=some t56:=by kernel_rfl
theorem tab57:fnP Try.prog lib md 57=some t57:=by kernel_rfl
theorem tab58:fnP Try.prog lib md 58=some t58:=by kernel_rfl
theorem tab62:fnP Try.prog lib md 62=some t62:=by kernel_rfl
theorem tab63:fnP Try.prog lib md 63=some t63:=by kernel_rfl
theorem tab64:fnP Try.prog lib md 64=some t64:=by kernel_rfl
theorem tab68:fnP Try.prog lib md 68=some t68:=by kernel_rfl
theorem tab69:fnP Try.prog lib md 69=some t69:=by kernel_rfl
theorem tab70:fnP Try.prog lib md 70=some t70:=by kernel_rfl
theorem tab71:fnP Try.prog lib md 71=some t71:=by kernel_rfl
theorem tab72:fnP Try.prog lib md 72=some t72:=by kernel_rfl
theorem tab73:fnP Try.prog lib md 73=some t73:=by kernel_rfl
theorem tab74:fnP Try.prog lib md 74=some t74:=by kernel_rfl
theorem tab75:fnP Try.prog lib md 75=some t75:=by kernel_rfl
theorem tab76:fnP Try.prog lib md 76=some t76:=by kernel_rfl
theorem tab77:fnP Try.prog lib md 77=some t77:=by kernel_rfl
theorem tab78:fnP Try.prog lib md 78=some t78:=by kernel_rfl
theorem tab79:fnP Try.prog lib md 79=some t79:=by kernel_rfl
theorem tab80:fnP Try.prog lib md 80=some t80:=by kernel_rfl
theorem tab81:fnP Try.prog lib md 81=some t81:=by kernel_rfl
theorem tab82:fnP Try.prog lib md 82=some t82:=by kernel_rfl
theorem tab83:fnP Try.prog lib md 83=some t83:=by kernel_rfl
theorem tab84:fnP Try.prog lib md 84=some t84:=by kernel_rfl
theorem tab92:fnP Try.prog lib md 92=some t92:=by kernel_rfl
theorem tab93:fnP Try.prog lib md 93=some t93:=by kernel_rfl
theorem tab94:fnP Try.prog lib md 94=some t94:=by kernel_rfl
theorem tab95:fnP Try.prog lib md 95=some t95:=by kernel_rfl
theorem tab96:fnP Try.prog lib md 96=some t96:=by kernel_rfl
theorem tab97:fnP Try.prog lib md 97=some t97:=by kernel_rfl
theorem tab98:fnP Try.prog lib md 98=some t98:=by kernel_rfl
theorem tab99:fnP Try.prog lib md 99=some t99:=by kernel_rfl
theorem tab100:fnP Try.prog lib md 100=some t100:=by kernel_rfl
theorem tab101:fnP Try.prog lib md 101=some t101:=by kernel_rfl
theorem tab102:fnP Try.prog lib md 102=some t102:=by kernel_rfl
theorem tab103:fnP Try.prog lib md 103=some t103:=by kernel_rfl
theorem tab104:fnP Try.prog lib md 104=some t104:=by kernel_rfl
theorem tab105:fnP Try.prog lib md 105=some t105:=by kernel_rfl
theorem tab106:fnP Try.prog lib md 106=some t106:=by kernel_rfl
theorem tab107:fnP Try.prog lib md 107=some t107:=by kernel_rfl
theorem tab108:fnP Try.prog lib md 108=some t108:=by kernel_rfl
theorem tab109:fnP Try.prog lib md 109=some t109:=by kernel_rfl
theorem tab114:fnP Try.prog lib md 114=some t114:=by kernel_rfl
theorem tab115:fnP Try.prog lib md 115=some t115:=by kernel_rfl
theorem tab116:fnP Try.prog lib md 116=some t116:=by kernel_rfl
theorem tab117:fnP Try.prog lib md 117=some t117:=by kernel_rfl
theorem tab118:fnP Try.prog lib md 118=some t118:=by kernel_rfl
theorem tab119:fnP Try.prog lib md 119=some t119:=by kernel_rfl
theorem tabOK:∀ f fn,tab f=some fn→fnP Try.prog lib md f=some fn:=Go.Eng.tabAt_ok <| .cons tab8 <| .cons tab11 <| .cons tab13 <| .cons tab15 <| .cons tab17 <| .cons tab19 <| .cons tab20 <| .cons tab22 <| .cons tab24 <| .cons tab25 <| .cons tab26 <| .cons tab27 <| .cons tab30 <| .cons tab31 <| .cons tab32 <| .cons tab33 <| .cons tab34 <| .cons tab38 <| .cons tab39 <| .cons tab47 <| .cons tab48 <| .cons tab49 <| .cons tab50 <| .cons tab51 <| .cons tab52 <| .cons tab53 <| .cons tab54 <| .cons tab55 <| .cons tab56 <| .cons tab57 <| .cons tab58 <| .cons tab62 <| .cons tab63 <| .cons tab64 <| .cons tab68 <| .cons tab69 <| .cons tab70 <| .cons tab71 <| .cons tab72 <| .cons tab73 <| .cons tab74 <| .cons tab75 <| .cons tab76 <| .cons tab77 <| .cons tab78 <| .cons tab79 <| .cons tab80 <| .cons tab81 <| .cons tab82 <| .cons tab83 <| .cons tab84 <| .cons tab92 <| .cons tab93 <| .cons tab94 <| .cons tab95 <| .cons tab96 <| .cons tab97 <| .cons tab98 <| .cons tab99 <| .cons tab100 <| .cons tab101 <| .cons tab102 <| .cons tab103 <| .cons tab104 <| .cons tab105 <| .cons tab106 <| .cons tab107 <| .cons tab108 <| .cons tab109 <| .cons tab114 <| .cons tab115 <| .cons tab116 <| .cons tab117 <| .cons tab118 <| .cons tab119 <| .nil
theorem libOK:∀ f T,lib f=some T→IsLib Try.prog f T:=by
  intro f T h
  cases h
end TA
namespace TB
open Go Go.Eng
def t25:AFn:=⟨1,107,[.cell 2 3 true],
 (.seq
 (.region [⟨(some 2),.alloc [(.own [] .full),(.own [] .full),(.own [] .full)],none,0,0⟩] false)
 (.seq
 (.region [⟨(some 5),.call 26 [],none,0,8⟩,
 ⟨(some 3),.alloc [(.own [] .full),(.own [] .full),(.own [] .full)],none,0,0⟩,
 ⟨none,.store 3 (.t 3) (.t 5),none,0,0⟩] false)
 (.seq
 (.region [⟨(some 6),.fieldAddr 2 (.t 3),none,0,0⟩,
 ⟨(some 7),.load 1 false (.t 6),none,0,0⟩,
 ⟨(some 8),.indexAddr 7 (.t 7) (.c (.d (.sc (.int .i64 0)))),none,0,0⟩,
 ⟨(some 4),.mov (.t 8),none,0,0⟩] false)
 (.seq
 (.seq
 (.region [⟨(some 9),.mov (.t 0),none,0,0⟩] false)
 (.block 0
 (.seq
 (.region [⟨(some 11),.bin .eql (.t 9) (.c (.d (.sc (.int .i64 0)))),none,0,0⟩,
 ⟨(some 10),.mov (.t 11),none,0,0⟩] false)
 (.cond (.t 10)
 (.region [⟨(some 12),.build [(.d (.sc (.int .u8 0))),(.d (.sc (.int .i64 0))),(.d (.sc (.int .i64 0))),(.own [] .full)] [],none,0,0⟩,
 ⟨(some 13),.buildSlice 4 1 [(.sc (.int .u8 0)),(.sc (.int .i64 0)),(.sc (.int .i64 0)),(.sl [])] [(0,(.t 12))],none,0,0⟩,
 ⟨(some 14),.fieldAddr 0 (.t 3),none,0,0⟩,
 ⟨none,.store 1 (.t 14) (.t 13),none,0,0⟩] false)
 (.seq
 (.region [⟨(some 16),.bin .eql (.t 9) (.c (.d (.sc (.int .i64 1)))),none,0,0⟩,
 ⟨(some 15),.mov (.t 16),none,0,0⟩] false)
 (.cond (.t 15)
 (.region [⟨(some 17),.build [(.d (.sc (.int .u8 0))),(.d (.sc (.int .i64 0))),(.d (.sc (.int .i64 0))),(.own [] .full)] [(0,1,(.c (.d (.sc (.int .u8 3)))))],none,0,0⟩,
 ⟨(some 18),.build [(.d (.sc (.int .u8 0))),(.d (.sc (.int .i64 0))),(.d (.sc (.int .i64 0))),(.own [] .full)] [(0,1,(.c (.d (.sc (.int .u8 6))))),(2,1,(.c (.d (.sc (.int .i64 16)))))],none,0,0⟩,
 ⟨(some 19),.build [(.d (.sc (.string ⟨#[]⟩))),(.d (.sc (.int .i64 0)))] [(0,1,(.c (.d (.sc (.string ⟨#[97]⟩))))),(1,1,(.c (.d (.sc (.int .i64 1)))))],none,0,0⟩,
 ⟨(some 20),.build [(.d (.sc (.string ⟨#[]⟩))),(.d (.sc (.int .i64 0)))] [(0,1,(.c (.d (.sc (.string ⟨#[98]⟩))))),(1,1,(.c (.d (.sc (.int .i64 0)))))],none,0,0⟩,
 ⟨(some 21),.buildSlice 2 2 [(.sc (.string ⟨#[]⟩)),(.sc (.int .i64 0))] [(0,(.t 19)),(1,(.t 20))],none,0,0⟩,
 ⟨(some 22),.build [(.d (.sc (.int .u8 0))),(.d (.sc (.int .i64 0))),(.d (.sc (.int .i64 0))),(.own [] .full)] [(0,1,(.c (.d (.sc (.int .u8 5))))),(3,1,(.t 21))],none,0,0⟩,
 ⟨(some 23),.buildSlice 4 3 [(.sc (.int .u8 0)),(.sc (.int .i64 0)),(.sc (.int .i64 0)),(.sl [])] [(0,(.t 17)),(1,(.t 18)),(2,(.t 22))],none,0,0⟩,
 ⟨(some 24),.fieldAddr 0 (.t 3),none,0,0⟩,
 ⟨none,.store 1 (.t 24) (.t 23),none,0,0⟩] false)
 (.seq
 (.region [⟨(some 26),.bin .eql (.t 9) (.c (.d (.sc (.int .i64 2)))),none,0,0⟩,
 ⟨(some 25),.mov (.t 26),none,0,0⟩] false)
 (.cond (.t 25)
 (.region [⟨(some 27),.makeSlice 1 16 [(.sc (.string ⟨#[]⟩))] (.c (.d (.sc (.int .i64 33)))) (.c (.d (.sc (.int .i64 33)))),none,0,0⟩,
 ⟨(some 28),.fieldAddr 1 (.t 3),none,0,0⟩,
 ⟨none,.store 1 (.t 28) (.t 27),none,0,0⟩] false)
 (.seq
 (.region [⟨(some 30),.bin .eql (.t 9) (.c (.d (.sc (.int .i64 3)))),none,0,0⟩,
 ⟨(some 29),.mov (.t 30),none,0,0⟩] false)
 (.cond (.t 29)
 (.region [⟨(some 31),.makeSlice 1 1 [(.sc (.int .u8 0))] (.c (.d (.sc (.int .i64 65)))) (.c (.d (.sc (.int .i64 65)))),none,0,0⟩,
 ⟨(some 32),.b2s (.t 31),none,0,0⟩,
 ⟨(some 33),.buildSlice 1 1 [(.sc (.string ⟨#[]⟩))] [(0,(.t 32))],none,0,0⟩,
 ⟨(some 34),.fieldAddr 1 (.t 3),none,0,0⟩,
 ⟨none,.store 1 (.t 34) (.t 33),none,0,0⟩] false)
 (.seq
 (.region [⟨(some 36),.bin .eql (.t 9) (.c (.d (.sc (.int .i64 4)))),none,0,0⟩,
 ⟨(some 35),.mov (.t 36),none,0,0⟩] false)
 (.cond (.t 35)
 (.region [⟨(some 37),.fieldAddr 2 (.t 3),none,0,0⟩,
 ⟨none,.store 1 (.t 37) (.c (.own [] .full)),none,0,0⟩] false)
 (.seq
 (.region [⟨(some 39),.bin .eql (.t 9) (.c (.d (.sc (.int .i64 5)))),none,0,0⟩,
 ⟨(some 38),.mov (.t 39),none,0,0⟩] false)
 (.cond (.t 38)
 (.region [⟨(some 40),.fieldAddr 2 (.t 3),none,0,0⟩,
 ⟨(some 41),.load 1 false (.t 40),none,1,0⟩,
 ⟨(some 42),.mov (.t 4),none,0,0⟩,
 ⟨(some 43),.nilCheck (.t 42),none,4,0⟩,
 ⟨(some 44),.load 7 true (.t 43),none,12,0⟩,
 ⟨(some 45),.buildSlice 7 1 [(.sc (.string ⟨#[]⟩)),(.sc (.int .i64 0)),(.sc (.int .i64 0)),(.sl []),(.sl []),(.sl []),(.sl [])] [(0,(.t 44))],none,28,0⟩,
 ⟨(some 46),.append 7 128 (.t 41) (.t 45),none,63,1⟩,
 ⟨(some 47),.fieldAddr 2 (.t 3),none,127,0⟩,
 ⟨none,.store 1 (.t 47) (.t 46),none,255,0⟩] true)
 (.seq
 (.region [⟨(some 49),.bin .eql (.t 9) (.c (.d (.sc (.int .i64 6)))),none,0,0⟩,
 ⟨(some 48),.mov (.t 49),none,0,0⟩] false)
 (.cond (.t 48)
 (.region [⟨(some 50),.mov (.t 4),none,0,0⟩,
 ⟨(some 51),.nilCheck (.t 50),none,0,0⟩,
 ⟨(some 52),.fieldAddr 0 (.t 51),none,0,0⟩,
 ⟨none,.store 1 (.t 52) (.c (.d (.sc (.string ⟨#[]⟩)))),none,0,0⟩] false)
 (.seq
 (.region [⟨(some 54),.bin .eql (.t 9) (.c (.d (.sc (.int .i64 7)))),none,0,0⟩,
 ⟨(some 53),.mov (.t 54),none,0,0⟩] false)
 (.cond (.t 53)
 (.region [⟨(some 55),.mov (.t 4),none,0,0⟩,
 ⟨(some 56),.nilCheck (.t 55),none,0,0⟩,
 ⟨(some 57),.fieldAddr 1 (.t 56),none,0,0⟩,
 ⟨none,.store 1 (.t 57) (.c (.d (.sc (.int .i64 1)))),none,0,0⟩] false)
 (.seq
 (.region [⟨(some 59),.bin .eql (.t 9) (.c (.d (.sc (.int .i64 8)))),none,0,0⟩,
 ⟨(some 58),.mov (.t 59),none,0,0⟩] false)
 (.cond (.t 58)
 (.region [⟨(some 60),.mov (.t 4),none,0,0⟩,
 ⟨(some 61),.nilCheck (.t 60),none,0,0⟩,
 ⟨(some 62),.fieldAddr 2 (.t 61),none,0,0⟩,
 ⟨none,.store 1 (.t 62) (.c (.d (.sc (.int .i64 0)))),none,0,0⟩] false)
 (.seq
 (.region [⟨(some 64),.bin .eql (.t 9) (.c (.d (.sc (.int .i64 9)))),none,0,0⟩,
 ⟨(some 63),.mov (.t 64),none,0,0⟩] false)
 (.cond (.t 63)
 (.region [⟨(some 65),.mov (.t 4),none,0,0⟩,
 ⟨(some 66),.build [(.d (.sc (.string ⟨#[]⟩))),(.d (.sc (.int .i64 0)))] [(0,1,(.c (.d (.sc (.string ⟨#[97]⟩)))))],none,0,0⟩,
 ⟨(some 67),.buildSlice 2 1 [(.sc (.string ⟨#[]⟩)),(.sc (.int .i64 0))] [(0,(.t 66))],none,0,0⟩,
 ⟨(some 68),.nilCheck (.t 65),none,0,0⟩,
 ⟨(some 69),.fieldAddr 3 (.t 68),none,0,0⟩,
 ⟨none,.store 1 (.t 69) (.t 67),none,0,0⟩] false)
 (.seq
 (.region [⟨(some 71),.bin .eql (.t 9) (.c (.d (.sc (.int .i64 10)))),none,0,0⟩,
 ⟨(some 70),.mov (.t 71),none,0,0⟩] false)
 (.cond (.t 70)
 (.region [⟨(some 72),.mov (.t 4),none,0,0⟩,
 ⟨(some 73),.nilCheck (.t 72),none,0,0⟩,
 ⟨(some 74),.fieldAddr 4 (.t 73),none,0,0⟩,
 ⟨none,.store 1 (.t 74) (.c (.own [] .full)),none,0,0⟩] false)
 (.seq
 (.region [⟨(some 76),.bin .eql (.t 9) (.c (.d (.sc (.int .i64 11)))),none,0,0⟩,
 ⟨(some 75),.mov (.t 76),none,0,0⟩] false)
 (.cond (.t 75)
 (.region [⟨(some 77),.mov (.t 4),none,0,0⟩,
 ⟨(some 78),.nilCheck (.t 77),none,0,0⟩,
 ⟨(some 79),.fieldAddr 4 (.t 78),none,0,0⟩,
 ⟨(some 80),.load 1 false (.t 79),none,0,0⟩,
 ⟨(some 81),.indexAddr 4 (.t 80) (.c (.d (.sc (.int .i64 0)))),none,0,0⟩,
 ⟨(some 82),.fieldAddr 2 (.t 81),none,0,0⟩,
 ⟨none,.store 1 (.t 82) (.c (.d (.sc (.int .i64 1)))),none,0,0⟩] false)
 (.seq
 (.region [⟨(some 84),.bin .eql (.t 9) (.c (.d (.sc (.int .i64 12)))),none,0,0⟩,
 ⟨(some 83),.mov (.t 84),none,0,0⟩] false)
 (.cond (.t 83)
 (.region [⟨(some 85),.mov (.t 4),none,0,0⟩,
 ⟨(some 86),.nilCheck (.t 85),none,0,0⟩,
 ⟨(some 87),.fieldAddr 5 (.t 86),none,0,0⟩,
 ⟨none,.store 1 (.t 87) (.c (.own [] .full)),none,0,0⟩] false)
 (.seq
 (.region [⟨(some 89),.bin .eql (.t 9) (.c (.d (.sc (.int .i64 13)))),none,0,0⟩,
 ⟨(some 88),.mov (.t 89),none,0,0⟩] false)
 (.cond (.t 88)
 (.region [⟨(some 90),.mov (.t 4),none,0,0⟩,
 ⟨(some 91),.build [(.d (.sc (.int .i64 0))),(.d (.sc (.int .u64 0)))] [],none,0,0⟩,
 ⟨(some 92),.build [(.d (.sc (.int .i64 0))),(.d (.sc (.int .u64 0)))] [(0,1,(.c (.d (.sc (.int .i64 1))))),(1,1,(.c (.d (.sc (.int .u64 1)))))],none,0,0⟩,
 ⟨(some 93),.buildSlice 2 2 [(.sc (.int .i64 0)),(.sc (.int .u64 0))] [(0,(.t 91)),(1,(.t 92))],none,0,0⟩,
 ⟨(some 94),.nilCheck (.t 90),none,0,0⟩,
 ⟨(some 95),.fieldAddr 6 (.t 94),none,0,0⟩,
 ⟨none,.store 1 (.t 95) (.t 93),none,0,0⟩] false)
 (.seq
 (.region [⟨(some 97),.bin .eql (.t 9) (.c (.d (.sc (.int .i64 14)))),none,0,0⟩,
 ⟨(some 96),.mov (.t 97),none,0,0⟩] false)
 (.cond (.t 96)
 (.region [⟨(some 98),.mov (.t 4),none,0,0⟩,
 ⟨(some 99),.nilCheck (.t 98),none,0,0⟩,
 ⟨(some 100),.fieldAddr 1 (.t 99),none,0,0⟩,
 ⟨none,.store 1 (.t 100) (.c (.d (.sc (.int .i64 (-1))))),none,0,0⟩] false)
 (.seq
 (.region [⟨(some 102),.bin .eql (.t 9) (.c (.d (.sc (.int .i64 15)))),none,0,0⟩,
 ⟨(some 101),.mov (.t 102),none,0,0⟩] false)
 (.cond (.t 101)
 (.region [⟨(some 103),.mov (.t 4),none,0,0⟩,
 ⟨(some 104),.nilCheck (.t 103),none,0,0⟩,
 ⟨(some 105),.fieldAddr 2 (.t 104),none,0,0⟩,
 ⟨none,.store 1 (.t 105) (.c (.d (.sc (.int .i64 (-2))))),none,0,0⟩] false)
 .skip))))))))))))))))))))))))))))))))))
 (.seq
 (.region [⟨(some 106),.load 3 true (.t 3),none,0,0⟩,
 ⟨none,.store 3 (.t 2) (.t 106),none,0,0⟩] false)
 .ret))))),false⟩
def t26:AFn:=⟨0,10,[.cell 0 3 true],
 (.seq
 (.region [⟨(some 0),.alloc [(.own [] .full),(.own [] .full),(.own [] .full)],none,0,0⟩] false)
 (.seq
 (.region [⟨(some 1),.build [(.d (.sc (.int .u8 0))),(.d (.sc (.int .i64 0))),(.d (.sc (.int .i64 0))),(.d (.sc (.int .i64 0)))] [(0,1,(.c (.d (.sc (.int .u8 34))))),(1,1,(.c (.d (.sc (.int .i64 (-1))))))],none,0,0⟩,
 ⟨(some 2),.buildSlice 4 1 [(.sc (.int .u8 0)),(.sc (.int .i64 0)),(.sc (.int .i64 0)),(.sc (.int .i64 0))] [(0,(.t 1))],none,0,2⟩,
 ⟨(some 3),.build [(.d (.sc (.int .i64 0))),(.d (.sc (.int .u64 0)))] [],none,0,0⟩,
 ⟨(some 4),.buildSlice 2 1 [(.sc (.int .i64 0)),(.sc (.int .u64 0))] [(0,(.t 3))],none,0,0⟩,
 ⟨(some 5),.build [(.d (.sc (.int .i64 0))),(.d (.sc (.int .u64 0)))] [],none,0,0⟩,
 ⟨(some 6),.buildSlice 2 1 [(.sc (.int .i64 0)),(.sc (.int .u64 0))] [(0,(.t 5))],none,0,0⟩,
 ⟨(some 7),.build [(.d (.sc (.string ⟨#[]⟩))),(.d (.sc (.int .i64 0))),(.d (.sc (.int .i64 0))),(.own [] .full),(.own [] .full),(.own [] .full),(.own [] .full)] [(0,1,(.c (.d (.sc (.string ⟨#[109]⟩))))),(2,1,(.c (.d (.sc (.int .i64 (-1)))))),(4,1,(.t 2)),(5,1,(.t 4)),(6,1,(.t 6))],none,0,0⟩,
 ⟨(some 8),.buildSlice 7 1 [(.sc (.string ⟨#[]⟩)),(.sc (.int .i64 0)),(.sc (.int .i64 0)),(.sl []),(.sl []),(.sl []),(.sl [])] [(0,(.t 7))],none,0,2⟩,
 ⟨(some 9),.build [(.own [] .full),(.own [] .full),(.own [] .full)] [(2,1,(.t 8))],none,0,0⟩,
 ⟨none,.store 3 (.t 0) (.t 9),none,0,0⟩] false)
 .ret)),true⟩
def md:Nat→Eng.Mode:=fun f=>match f with
 |25=>⟨[(46,1),(5,8)],false⟩
 |26=>⟨[(2,2),(8,2)],true⟩
 |_=>⟨[],false⟩
def lib:Nat→Option TypeId:=fun f=>match f with
 |_=>none
def tabL:List (Nat×AFn):=[(25,t25),(26,t26)]
def tab:Nat→Option AFn:=Go.Eng.tabAt tabL
theorem tab25:fnP Try.prog lib md 25=some t25:=by kernel_rfl
theorem tab26:fnP Try.prog lib md 26=some t26:=by kernel_rfl
theorem tabOK:∀ f fn,tab f=some fn→fnP Try.prog lib md f=some fn:=Go.Eng.tabAt_ok <| .cons tab25 <| .cons tab26 <| .nil
theorem libOK:∀ f T,lib f=some T→IsLib Try.prog f T:=by
  intro f T h
  cases h
end TB
end Go.Proofs.Ytlfhlggkbcncoaa
