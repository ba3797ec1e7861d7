/- The tables of FrameNames, and its run. -/
import Derived.Test.YtgpggimdmcjbpaaEngTop
import Derived.Test.YtgpggimdmcjbpaaRows
import Derived.ProofKit
namespace Go.Proofs.Ytgpggimdmcjbpaa
open Go Go.Eng
def t5:AFn:=⟨0,457,[.t 0],
 (.seq
 (.region [⟨(some 0),.mov (.c (.d (.sc (.bool false)))),none,0,0⟩] false)
 (.seq
 (.region [⟨(some 91),.call 16 [],none,0,0⟩,
 ⟨(some 1),.alloc [(.own [] .full),(.own [] .full),(.own [] .full)],none,0,0⟩,
 ⟨none,.store 3 (.t 1) (.t 91),none,0,0⟩] false)
 (.seq
 (.region [⟨(some 92),.build [(.d (.sc (.int .u64 0))),(.own [] .full)] [],none,0,0⟩,
 ⟨(some 93),.build [(.d (.sc (.int .u64 0))),(.own [] .full)] [(0,1,(.c (.d (.sc (.int .u64 16777224)))))],none,0,0⟩,
 ⟨(some 94),.build [(.d (.sc (.int .u64 0))),(.own [] .full)] [(0,1,(.c (.d (.sc (.int .u64 285212672)))))],none,0,0⟩,
 ⟨(some 95),.makeSlice 1 1 [(.sc (.int .u8 0))] (.c (.d (.sc (.int .i64 4)))) (.c (.d (.sc (.int .i64 4)))),none,0,0⟩,
 ⟨(some 96),.build [(.d (.sc (.int .u64 0))),(.own [] .full)] [(0,1,(.c (.d (.sc (.int .u64 16777216))))),(1,1,(.t 95))],none,8,0⟩,
 ⟨(some 97),.makeSlice 1 1 [(.sc (.int .u8 0))] (.c (.d (.sc (.int .i64 4104)))) (.c (.d (.sc (.int .i64 4104)))),none,0,0⟩,
 ⟨(some 98),.build [(.d (.sc (.int .u64 0))),(.own [] .full)] [(0,1,(.c (.d (.sc (.int .u64 16777216))))),(1,1,(.t 97))],none,32,0⟩,
 ⟨(some 99),.buildSlice 2 5 [(.sc (.int .u64 0)),(.sl [])] [(0,(.t 92)),(1,(.t 93)),(2,(.t 94)),(3,(.t 96)),(4,(.t 98))],none,127,0⟩,
 ⟨(some 2),.mov (.t 99),none,255,0⟩] true)
 (.seq
 (.seq
 (.region [⟨(some 3),.mov (.c (.d (.sc (.int .i64 0)))),none,0,0⟩] false)
 (.block 0
 (.loop
 (.seq
 (.seq
 (.region [⟨(some 100),.mov (.t 3),none,0,0⟩,
 ⟨(some 101),.mov (.t 2),none,0,0⟩,
 ⟨(some 102),.len (.t 101),none,0,0⟩,
 ⟨(some 103),.bin .lss (.t 100) (.t 102),none,0,0⟩] false)
 (.cond (.t 103)
 .skip
 (.exit 0)))
 (.seq
 (.block 1
 (.seq
 (.region [⟨(some 107),.mov (.t 2),none,0,0⟩,
 ⟨(some 108),.mov (.t 3),none,0,0⟩,
 ⟨(some 109),.indexAddr 2 (.t 107) (.t 108),none,0,0⟩,
 ⟨(some 110),.load 2 true (.t 109),none,0,0⟩,
 ⟨(some 111),.build [(.own [] .full),(.own [] .full),(.own [] .full)] [],none,0,0⟩,
 ⟨(some 112),.call 17 [(.t 110),(.t 111),(.c (.d (.sc (.int .i64 (-1))))),(.c (.d (.sc (.int .u64 0)))),(.c (.d (.sc (.int .u64 9)))),(.c (.d (.sc (.int .u64 0)))),(.c (.own [] .full)),(.c (.d (.sc (.int .i64 (-1)))))],none,0,0⟩,
 ⟨(some 106),.mov (.t 112),none,0,0⟩,
 ⟨(some 113),.extract (.t 106) 0,none,0,0⟩,
 ⟨(some 114),.extract (.t 106) 1,none,0,0⟩,
 ⟨(some 115),.extract (.t 106) 2,none,0,0⟩,
 ⟨(some 4),.alloc [(.d (.sc (.int .u64 0))),(.own [] .full)],none,0,0⟩,
 ⟨none,.store 2 (.t 4) (.t 113),none,0,0⟩,
 ⟨(some 5),.mov (.t 114),none,0,0⟩,
 ⟨(some 6),.mov (.t 115),none,0,0⟩] false)
 (.seq
 (.region [⟨(some 117),.mov (.t 2),none,0,0⟩,
 ⟨(some 118),.mov (.t 3),none,0,0⟩,
 ⟨(some 119),.indexAddr 2 (.t 117) (.t 118),none,0,0⟩,
 ⟨(some 120),.load 2 true (.t 119),none,0,0⟩,
 ⟨(some 121),.callF 18 [(.t 120),(.c (.d (.sc (.int .u64 1))))],none,0,0⟩,
 ⟨(some 116),.mov (.t 121),none,0,0⟩,
 ⟨(some 122),.extract (.t 116) 0,none,0,0⟩,
 ⟨(some 123),.extract (.t 116) 1,none,0,0⟩,
 ⟨(some 124),.extract (.t 116) 2,none,0,0⟩,
 ⟨(some 125),.extract (.t 116) 3,none,0,0⟩,
 ⟨(some 7),.mov (.t 122),none,0,0⟩,
 ⟨(some 8),.mov (.t 123),none,0,0⟩,
 ⟨(some 9),.mov (.t 124),none,0,0⟩,
 ⟨(some 10),.mov (.t 125),none,0,0⟩] false)
 (.seq
 (.region [⟨(some 127),.mov (.t 2),none,0,0⟩,
 ⟨(some 128),.mov (.t 3),none,0,0⟩,
 ⟨(some 129),.indexAddr 2 (.t 127) (.t 128),none,0,0⟩,
 ⟨(some 130),.load 2 true (.t 129),none,0,0⟩,
 ⟨(some 131),.call 19 [(.t 130),(.c (.d (.sc (.int .u64 1))))],none,0,0⟩,
 ⟨(some 126),.mov (.t 131),none,0,0⟩,
 ⟨(some 132),.extract (.t 126) 0,none,0,0⟩,
 ⟨(some 133),.extract (.t 126) 1,none,0,0⟩,
 ⟨(some 134),.extract (.t 126) 2,none,0,0⟩,
 ⟨(some 11),.alloc [(.d (.sc (.int .u64 0))),(.own [] .full)],none,0,0⟩,
 ⟨none,.store 2 (.t 11) (.t 132),none,0,0⟩,
 ⟨(some 12),.mov (.t 133),none,0,0⟩,
 ⟨(some 13),.mov (.t 134),none,0,0⟩] false)
 (.seq
 (.region [⟨(some 136),.mov (.t 2),none,0,0⟩,
 ⟨(some 137),.mov (.t 3),none,0,0⟩,
 ⟨(some 138),.indexAddr 2 (.t 136) (.t 137),none,0,0⟩,
 ⟨(some 139),.load 2 true (.t 138),none,0,0⟩,
 ⟨(some 140),.build [(.own [] .full),(.own [] .full),(.own [] .full)] [],none,0,0⟩,
 ⟨(some 141),.call 20 [(.t 139),(.t 140),(.c (.d (.sc (.int .u64 0))))],none,0,0⟩,
 ⟨(some 135),.mov (.t 141),none,0,0⟩,
 ⟨(some 142),.extract (.t 135) 0,none,0,0⟩,
 ⟨(some 143),.extract (.t 135) 1,none,0,0⟩,
 ⟨(some 14),.mov (.t 142),none,0,0⟩,
 ⟨(some 15),.mov (.t 143),none,0,0⟩] false)
 (.seq
 (.region [⟨(some 144),.mov (.t 6),none,0,0⟩,
 ⟨(some 145),.bin .neq (.t 144) (.c (.d (.sc (.int .i64 8)))),none,0,0⟩,
 ⟨(some 146),.mov (.t 145),none,0,0⟩,
 ⟨(some 147),.mov (.t 10),(some (146,false)),0,0⟩,
 ⟨(some 148),.bin .neq (.t 147) (.c (.d (.sc (.int .i64 8)))),(some (146,false)),0,0⟩,
 ⟨(some 149),.pick (.t 146) (.c (.d (.sc (.bool true)))) (.t 148),none,0,0⟩,
 ⟨(some 150),.mov (.t 149),none,0,0⟩,
 ⟨(some 151),.mov (.t 13),(some (150,false)),0,0⟩,
 ⟨(some 152),.bin .neq (.t 151) (.c (.d (.sc (.int .i64 8)))),(some (150,false)),0,0⟩,
 ⟨(some 153),.pick (.t 150) (.c (.d (.sc (.bool true)))) (.t 152),none,0,0⟩,
 ⟨(some 154),.mov (.t 153),none,0,0⟩,
 ⟨(some 155),.mov (.t 15),(some (154,false)),0,0⟩,
 ⟨(some 156),.bin .neq (.t 155) (.c (.d (.sc (.int .i64 8)))),(some (154,false)),0,0⟩,
 ⟨(some 157),.pick (.t 154) (.c (.d (.sc (.bool true)))) (.t 156),none,0,0⟩] false)
 (.cond (.t 157)
 (.seq
 (.region [⟨(some 0),.mov (.c (.d (.sc (.bool false)))),none,0,0⟩] false)
 .ret)
 .skip)))))))
 (.region [⟨(some 104),.mov (.t 3),none,0,0⟩,
 ⟨(some 105),.bin .add (.t 104) (.c (.d (.sc (.int .i64 1)))),none,0,0⟩,
 ⟨(some 3),.mov (.t 105),none,0,0⟩] false))))))
 (.seq
 (.region [⟨(some 158),.build [(.d (.sc (.int .u64 0))),(.own [] .full)] [(0,1,(.c (.d (.sc (.int .u64 16777216)))))],none,0,0⟩,
 ⟨(some 16),.alloc [(.d (.sc (.int .u64 0))),(.own [] .full)],none,0,0⟩,
 ⟨none,.store 2 (.t 16) (.t 158),none,0,0⟩] false)
 (.seq
 (.region [⟨(some 159),.makeSlice 1 1 [(.sc (.int .u8 0))] (.c (.d (.sc (.int .i64 8)))) (.c (.d (.sc (.int .i64 8)))),none,0,0⟩,
 ⟨(some 17),.mov (.t 159),none,0,0⟩] false)
 (.seq
 (.region [⟨(some 161),.build [(.own [] .full),(.own [] .full),(.own [] .full)] [],none,0,0⟩,
 ⟨(some 162),.callF 7 [(.t 161),(.c (.d (.sc (.int .i64 0)))),(.c (.d (.sc (.int .i64 0))))],none,0,0⟩,
 ⟨(some 160),.mov (.t 162),none,0,0⟩,
 ⟨(some 163),.extract (.t 160) 0,none,0,0⟩,
 ⟨(some 164),.extract (.t 160) 1,none,0,0⟩,
 ⟨(some 165),.extract (.t 160) 2,none,0,0⟩,
 ⟨(some 18),.mov (.t 163),none,0,0⟩,
 ⟨(some 19),.mov (.t 164),none,0,0⟩,
 ⟨(some 20),.mov (.t 165),none,0,0⟩] false)
 (.seq
 (.region [⟨(some 167),.load 3 true (.t 1),none,0,0⟩,
 ⟨(some 168),.callF 7 [(.t 167),(.c (.d (.sc (.int .i64 2)))),(.c (.d (.sc (.int .i64 0))))],none,0,0⟩,
 ⟨(some 166),.mov (.t 168),none,0,0⟩,
 ⟨(some 169),.extract (.t 166) 0,none,0,0⟩,
 ⟨(some 170),.extract (.t 166) 1,none,0,0⟩,
 ⟨(some 171),.extract (.t 166) 2,none,0,0⟩,
 ⟨(some 21),.mov (.t 169),none,0,0⟩,
 ⟨(some 22),.mov (.t 170),none,0,0⟩,
 ⟨(some 23),.mov (.t 171),none,0,0⟩] false)
 (.seq
 (.region [⟨(some 173),.load 3 true (.t 1),none,0,0⟩,
 ⟨(some 174),.callF 7 [(.t 173),(.c (.d (.sc (.int .i64 1)))),(.c (.d (.sc (.int .i64 2))))],none,0,0⟩,
 ⟨(some 172),.mov (.t 174),none,0,0⟩,
 ⟨(some 175),.extract (.t 172) 0,none,0,0⟩,
 ⟨(some 176),.extract (.t 172) 1,none,0,0⟩,
 ⟨(some 177),.extract (.t 172) 2,none,0,0⟩,
 ⟨(some 24),.mov (.t 175),none,0,0⟩,
 ⟨(some 25),.mov (.t 176),none,0,0⟩,
 ⟨(some 26),.mov (.t 177),none,0,0⟩] false)
 (.seq
 (.region [⟨(some 179),.load 3 true (.t 1),none,0,0⟩,
 ⟨(some 180),.callF 7 [(.t 179),(.c (.d (.sc (.int .i64 1)))),(.c (.d (.sc (.int .i64 (-1)))))],none,0,0⟩,
 ⟨(some 178),.mov (.t 180),none,0,0⟩,
 ⟨(some 181),.extract (.t 178) 0,none,0,0⟩,
 ⟨(some 182),.extract (.t 178) 1,none,0,0⟩,
 ⟨(some 183),.extract (.t 178) 2,none,0,0⟩,
 ⟨(some 27),.mov (.t 181),none,0,0⟩,
 ⟨(some 28),.mov (.t 182),none,0,0⟩,
 ⟨(some 29),.mov (.t 183),none,0,0⟩] false)
 (.seq
 (.region [⟨(some 185),.build [(.own [] .full),(.own [] .full),(.own [] .full)] [],none,0,0⟩,
 ⟨(some 186),.callF 9 [(.t 185),(.c (.d (.sc (.int .u64 256))))],none,0,0⟩,
 ⟨(some 184),.mov (.t 186),none,0,0⟩,
 ⟨(some 187),.extract (.t 184) 0,none,0,0⟩,
 ⟨(some 188),.extract (.t 184) 1,none,0,0⟩,
 ⟨(some 30),.mov (.t 187),none,0,0⟩,
 ⟨(some 31),.mov (.t 188),none,0,0⟩] false)
 (.seq
 (.region [⟨(some 190),.load 3 true (.t 1),none,0,0⟩,
 ⟨(some 191),.callF 9 [(.t 190),(.c (.d (.sc (.int .u64 258))))],none,0,0⟩,
 ⟨(some 189),.mov (.t 191),none,0,0⟩,
 ⟨(some 192),.extract (.t 189) 0,none,0,0⟩,
 ⟨(some 193),.extract (.t 189) 1,none,0,0⟩,
 ⟨(some 32),.mov (.t 192),none,0,0⟩,
 ⟨(some 33),.mov (.t 193),none,0,0⟩] false)
 (.seq
 (.region [⟨(some 194),.call 16 [],none,0,458755⟩,
 ⟨(some 34),.alloc [(.own [] .full),(.own [] .full),(.own [] .full)],none,0,0⟩,
 ⟨none,.store 3 (.t 34) (.t 194),none,0,0⟩] false)
 (.seq
 (.region [⟨(some 195),.fieldAddr 2 (.t 34),none,0,0⟩,
 ⟨(some 196),.load 1 false (.t 195),none,0,0⟩,
 ⟨(some 197),.build [(.d (.sc (.int .i64 0))),(.d (.sc (.int .u64 0)))] [(1,1,(.c (.d (.sc (.int .u64 4073)))))],none,0,0⟩,
 ⟨(some 198),.buildSlice 2 1 [(.sc (.int .i64 0)),(.sc (.int .u64 0))] [(0,(.t 197))],none,0,0⟩,
 ⟨(some 199),.indexAddr 7 (.t 196) (.c (.d (.sc (.int .i64 0)))),none,0,0⟩,
 ⟨(some 200),.fieldAddr 5 (.t 199),none,0,0⟩,
 ⟨none,.store 1 (.t 200) (.t 198),none,0,0⟩] false)
 (.seq
 (.region [⟨(some 202),.load 3 true (.t 34),none,0,0⟩,
 ⟨(some 203),.callF 9 [(.t 202),(.c (.d (.sc (.int .u64 256))))],none,0,0⟩,
 ⟨(some 201),.mov (.t 203),none,0,0⟩,
 ⟨(some 204),.extract (.t 201) 0,none,0,0⟩,
 ⟨(some 205),.extract (.t 201) 1,none,0,0⟩,
 ⟨(some 35),.mov (.t 204),none,0,0⟩,
 ⟨(some 36),.mov (.t 205),none,0,0⟩] false)
 (.seq
 (.region [⟨(some 206),.fieldAddr 2 (.t 34),none,0,0⟩,
 ⟨(some 207),.load 1 false (.t 206),none,0,0⟩,
 ⟨(some 208),.build [(.d (.sc (.int .i64 0))),(.d (.sc (.int .u64 0)))] [(1,1,(.c (.d (.sc (.int .u64 18446744073709551615)))))],none,0,0⟩,
 ⟨(some 209),.buildSlice 2 1 [(.sc (.int .i64 0)),(.sc (.int .u64 0))] [(0,(.t 208))],none,0,0⟩,
 ⟨(some 210),.indexAddr 7 (.t 207) (.c (.d (.sc (.int .i64 0)))),none,0,0⟩,
 ⟨(some 211),.fieldAddr 5 (.t 210),none,0,0⟩,
 ⟨none,.store 1 (.t 211) (.t 209),none,0,0⟩] false)
 (.seq
 (.region [⟨(some 213),.load 3 true (.t 34),none,0,0⟩,
 ⟨(some 214),.callF 9 [(.t 213),(.c (.d (.sc (.int .u64 256))))],none,0,0⟩,
 ⟨(some 212),.mov (.t 214),none,0,0⟩,
 ⟨(some 215),.extract (.t 212) 0,none,0,0⟩,
 ⟨(some 216),.extract (.t 212) 1,none,0,0⟩,
 ⟨(some 37),.mov (.t 215),none,0,0⟩,
 ⟨(some 38),.mov (.t 216),none,0,0⟩] false)
 (.seq
 (.region [⟨(some 218),.load 2 true (.t 16),none,0,0⟩,
 ⟨(some 219),.build [(.own [] .full),(.own [] .full),(.own [] .full)] [],none,0,0⟩,
 ⟨(some 220),.call 17 [(.t 218),(.t 219),(.c (.d (.sc (.int .i64 0)))),(.c (.d (.sc (.int .u64 0)))),(.c (.d (.sc (.int .u64 0)))),(.c (.d (.sc (.int .u64 0)))),(.c (.own [] .full)),(.c (.d (.sc (.int .i64 100))))],none,0,0⟩,
 ⟨(some 217),.mov (.t 220),none,0,0⟩,
 ⟨(some 221),.extract (.t 217) 0,none,0,0⟩,
 ⟨(some 222),.extract (.t 217) 1,none,0,0⟩,
 ⟨(some 223),.extract (.t 217) 2,none,0,0⟩,
 ⟨(some 39),.alloc [(.d (.sc (.int .u64 0))),(.own [] .full)],none,0,0⟩,
 ⟨none,.store 2 (.t 39) (.t 221),none,0,0⟩,
 ⟨(some 40),.mov (.t 222),none,0,0⟩,
 ⟨(some 41),.mov (.t 223),none,0,0⟩] false)
 (.seq
 (.region [⟨(some 225),.load 2 true (.t 16),none,0,0⟩,
 ⟨(some 226),.load 3 true (.t 1),none,0,0⟩,
 ⟨(some 227),.call 17 [(.t 225),(.t 226),(.c (.d (.sc (.int .i64 2)))),(.c (.d (.sc (.int .u64 0)))),(.c (.d (.sc (.int .u64 0)))),(.c (.d (.sc (.int .u64 0)))),(.c (.own [] .full)),(.c (.d (.sc (.int .i64 100))))],none,0,0⟩,
 ⟨(some 224),.mov (.t 227),none,0,0⟩,
 ⟨(some 228),.extract (.t 224) 0,none,0,0⟩,
 ⟨(some 229),.extract (.t 224) 1,none,0,0⟩,
 ⟨(some 230),.extract (.t 224) 2,none,0,0⟩,
 ⟨(some 42),.alloc [(.d (.sc (.int .u64 0))),(.own [] .full)],none,0,0⟩,
 ⟨none,.store 2 (.t 42) (.t 228),none,0,0⟩,
 ⟨(some 43),.mov (.t 229),none,0,0⟩,
 ⟨(some 44),.mov (.t 230),none,0,0⟩] false)
 (.seq
 (.region [⟨(some 232),.load 2 true (.t 16),none,0,0⟩,
 ⟨(some 233),.load 3 true (.t 1),none,0,0⟩,
 ⟨(some 234),.mov (.t 17),none,0,0⟩,
 ⟨(some 235),.call 17 [(.t 232),(.t 233),(.c (.d (.sc (.int .i64 1)))),(.c (.d (.sc (.int .u64 0)))),(.c (.d (.sc (.int .u64 4)))),(.c (.d (.sc (.int .u64 1)))),(.t 234),(.c (.d (.sc (.int .i64 100))))],none,0,0⟩,
 ⟨(some 231),.mov (.t 235),none,0,0⟩,
 ⟨(some 236),.extract (.t 231) 0,none,0,0⟩,
 ⟨(some 237),.extract (.t 231) 1,none,0,0⟩,
 ⟨(some 238),.extract (.t 231) 2,none,0,0⟩,
 ⟨(some 45),.alloc [(.d (.sc (.int .u64 0))),(.own [] .full)],none,0,0⟩,
 ⟨none,.store 2 (.t 45) (.t 236),none,0,0⟩,
 ⟨(some 46),.mov (.t 237),none,0,0⟩,
 ⟨(some 47),.mov (.t 238),none,0,0⟩] false)
 (.seq
 (.region [⟨(some 240),.load 2 true (.t 16),none,0,0⟩,
 ⟨(some 241),.load 3 true (.t 1),none,0,0⟩,
 ⟨(some 242),.mov (.t 17),none,0,0⟩,
 ⟨(some 243),.call 17 [(.t 240),(.t 241),(.c (.d (.sc (.int .i64 1)))),(.c (.d (.sc (.int .u64 0)))),(.c (.d (.sc (.int .u64 2)))),(.c (.d (.sc (.int .u64 0)))),(.t 242),(.c (.d (.sc (.int .i64 100))))],none,0,0⟩,
 ⟨(some 239),.mov (.t 243),none,0,0⟩,
 ⟨(some 244),.extract (.t 239) 0,none,0,0⟩,
 ⟨(some 245),.extract (.t 239) 1,none,0,0⟩,
 ⟨(some 246),.extract (.t 239) 2,none,0,0⟩,
 ⟨(some 48),.alloc [(.d (.sc (.int .u64 0))),(.own [] .full)],none,0,0⟩,
 ⟨none,.store 2 (.t 48) (.t 244),none,0,0⟩,
 ⟨(some 49),.mov (.t 245),none,0,0⟩,
 ⟨(some 50),.mov (.t 246),none,0,0⟩] false)
 (.seq
 (.region [⟨(some 248),.load 2 true (.t 16),none,0,0⟩,
 ⟨(some 249),.load 3 true (.t 1),none,0,0⟩,
 ⟨(some 250),.mov (.t 17),none,0,0⟩,
 ⟨(some 251),.call 17 [(.t 248),(.t 249),(.c (.d (.sc (.int .i64 1)))),(.c (.d (.sc (.int .u64 0)))),(.c (.d (.sc (.int .u64 1)))),(.c (.d (.sc (.int .u64 1)))),(.t 250),(.c (.d (.sc (.int .i64 100))))],none,0,0⟩,
 ⟨(some 247),.mov (.t 251),none,0,0⟩,
 ⟨(some 252),.extract (.t 247) 0,none,0,0⟩,
 ⟨(some 253),.extract (.t 247) 1,none,0,0⟩,
 ⟨(some 254),.extract (.t 247) 2,none,0,0⟩,
 ⟨(some 51),.alloc [(.d (.sc (.int .u64 0))),(.own [] .full)],none,0,0⟩,
 ⟨none,.store 2 (.t 51) (.t 252),none,0,0⟩,
 ⟨(some 52),.mov (.t 253),none,0,0⟩,
 ⟨(some 53),.mov (.t 254),none,0,0⟩] false)
 (.seq
 (.region [⟨(some 256),.load 2 true (.t 16),none,0,0⟩,
 ⟨(some 257),.load 3 true (.t 1),none,0,0⟩,
 ⟨(some 258),.call 17 [(.t 256),(.t 257),(.c (.d (.sc (.int .i64 1)))),(.c (.d (.sc (.int .u64 0)))),(.c (.d (.sc (.int .u64 0)))),(.c (.d (.sc (.int .u64 0)))),(.c (.own [] .full)),(.c (.d (.sc (.int .i64 100))))],none,0,0⟩,
 ⟨(some 255),.mov (.t 258),none,0,0⟩,
 ⟨(some 259),.extract (.t 255) 0,none,0,0⟩,
 ⟨(some 260),.extract (.t 255) 1,none,0,0⟩,
 ⟨(some 261),.extract (.t 255) 2,none,0,0⟩,
 ⟨(some 54),.alloc [(.d (.sc (.int .u64 0))),(.own [] .full)],none,0,0⟩,
 ⟨none,.store 2 (.t 54) (.t 259),none,0,0⟩,
 ⟨(some 55),.mov (.t 260),none,0,0⟩,
 ⟨(some 56),.mov (.t 261),none,0,0⟩] false)
 (.seq
 (.region [⟨(some 263),.load 2 true (.t 16),none,0,0⟩,
 ⟨(some 264),.load 3 true (.t 1),none,0,0⟩,
 ⟨(some 265),.makeSlice 1 1 [(.sc (.int .u8 0))] (.c (.d (.sc (.int .i64 9)))) (.c (.d (.sc (.int .i64 9)))),none,0,0⟩,
 ⟨(some 266),.call 17 [(.t 263),(.t 264),(.c (.d (.sc (.int .i64 1)))),(.c (.d (.sc (.int .u64 0)))),(.c (.d (.sc (.int .u64 0)))),(.c (.d (.sc (.int .u64 0)))),(.t 265),(.c (.d (.sc (.int .i64 100))))],none,7,0⟩,
 ⟨(some 262),.mov (.t 266),none,15,0⟩,
 ⟨(some 267),.extract (.t 262) 0,none,31,0⟩,
 ⟨(some 268),.extract (.t 262) 1,none,31,0⟩,
 ⟨(some 269),.extract (.t 262) 2,none,31,0⟩,
 ⟨(some 57),.alloc [(.d (.sc (.int .u64 0))),(.own [] .full)],none,0,0⟩,
 ⟨none,.store 2 (.t 57) (.t 267),none,319,0⟩,
 ⟨(some 58),.mov (.t 268),none,895,0⟩,
 ⟨(some 59),.mov (.t 269),none,2047,0⟩] true)
 (.seq
 (.region [⟨(some 271),.load 2 true (.t 16),none,0,0⟩,
 ⟨(some 272),.load 3 true (.t 1),none,0,0⟩,
 ⟨(some 273),.mov (.t 17),none,0,0⟩,
 ⟨(some 274),.call 17 [(.t 271),(.t 272),(.c (.d (.sc (.int .i64 1)))),(.c (.d (.sc (.int .u64 0)))),(.c (.d (.sc (.int .u64 0)))),(.c (.d (.sc (.int .u64 0)))),(.t 273),(.c (.d (.sc (.int .i64 4097))))],none,0,0⟩,
 ⟨(some 270),.mov (.t 274),none,0,0⟩,
 ⟨(some 275),.extract (.t 270) 0,none,0,0⟩,
 ⟨(some 276),.extract (.t 270) 1,none,0,0⟩,
 ⟨(some 277),.extract (.t 270) 2,none,0,0⟩,
 ⟨(some 60),.alloc [(.d (.sc (.int .u64 0))),(.own [] .full)],none,0,0⟩,
 ⟨none,.store 2 (.t 60) (.t 275),none,0,0⟩,
 ⟨(some 61),.mov (.t 276),none,0,0⟩,
 ⟨(some 62),.mov (.t 277),none,0,0⟩] false)
 (.seq
 (.region [⟨(some 279),.load 2 true (.t 16),none,0,0⟩,
 ⟨(some 280),.load 3 true (.t 1),none,0,0⟩,
 ⟨(some 281),.mov (.t 17),none,0,0⟩,
 ⟨(some 282),.call 17 [(.t 279),(.t 280),(.c (.d (.sc (.int .i64 1)))),(.c (.d (.sc (.int .u64 0)))),(.c (.d (.sc (.int .u64 0)))),(.c (.d (.sc (.int .u64 0)))),(.t 281),(.c (.d (.sc (.int .i64 39))))],none,0,0⟩,
 ⟨(some 278),.mov (.t 282),none,0,0⟩,
 ⟨(some 283),.extract (.t 278) 0,none,0,0⟩,
 ⟨(some 284),.extract (.t 278) 1,none,0,0⟩,
 ⟨(some 285),.extract (.t 278) 2,none,0,0⟩,
 ⟨(some 63),.alloc [(.d (.sc (.int .u64 0))),(.own [] .full)],none,0,0⟩,
 ⟨none,.store 2 (.t 63) (.t 283),none,0,0⟩,
 ⟨(some 64),.mov (.t 284),none,0,0⟩,
 ⟨(some 65),.mov (.t 285),none,0,0⟩] false)
 (.seq
 (.region [⟨(some 287),.load 2 true (.t 16),none,0,0⟩,
 ⟨(some 288),.load 3 true (.t 1),none,0,0⟩,
 ⟨(some 289),.mov (.t 17),none,0,0⟩,
 ⟨(some 290),.call 17 [(.t 287),(.t 288),(.c (.d (.sc (.int .i64 1)))),(.c (.d (.sc (.int .u64 0)))),(.c (.d (.sc (.int .u64 3)))),(.c (.d (.sc (.int .u64 5)))),(.t 289),(.c (.d (.sc (.int .i64 40))))],none,0,0⟩,
 ⟨(some 286),.mov (.t 290),none,0,0⟩,
 ⟨(some 291),.extract (.t 286) 0,none,0,0⟩,
 ⟨(some 292),.extract (.t 286) 1,none,0,0⟩,
 ⟨(some 293),.extract (.t 286) 2,none,0,0⟩,
 ⟨(some 66),.alloc [(.d (.sc (.int .u64 0))),(.own [] .full)],none,0,0⟩,
 ⟨none,.store 2 (.t 66) (.t 291),none,0,0⟩,
 ⟨(some 67),.mov (.t 292),none,0,0⟩,
 ⟨(some 68),.mov (.t 293),none,0,0⟩] false)
 (.seq
 (.region [⟨(some 295),.load 2 true (.t 66),none,0,0⟩,
 ⟨(some 296),.mov (.t 67),none,0,0⟩,
 ⟨(some 297),.bin .add (.t 296) (.c (.d (.sc (.int .u64 24)))),none,0,0⟩,
 ⟨(some 298),.callF 18 [(.t 295),(.t 297)],none,0,0⟩,
 ⟨(some 294),.mov (.t 298),none,0,0⟩,
 ⟨(some 299),.extract (.t 294) 0,none,0,0⟩,
 ⟨(some 300),.extract (.t 294) 1,none,0,0⟩,
 ⟨(some 301),.extract (.t 294) 2,none,0,0⟩,
 ⟨(some 302),.extract (.t 294) 3,none,0,0⟩,
 ⟨(some 69),.mov (.t 299),none,0,0⟩,
 ⟨(some 70),.mov (.t 300),none,0,0⟩,
 ⟨(some 71),.mov (.t 301),none,0,0⟩,
 ⟨(some 72),.mov (.t 302),none,0,0⟩] false)
 (.seq
 (.region [⟨(some 304),.load 2 true (.t 66),none,0,0⟩,
 ⟨(some 305),.mov (.t 67),none,0,0⟩,
 ⟨(some 306),.bin .add (.t 305) (.c (.d (.sc (.int .u64 4)))),none,0,0⟩,
 ⟨(some 307),.callF 18 [(.t 304),(.t 306)],none,0,0⟩,
 ⟨(some 303),.mov (.t 307),none,0,0⟩,
 ⟨(some 308),.extract (.t 303) 0,none,0,0⟩,
 ⟨(some 309),.extract (.t 303) 1,none,0,0⟩,
 ⟨(some 310),.extract (.t 303) 2,none,0,0⟩,
 ⟨(some 311),.extract (.t 303) 3,none,0,0⟩,
 ⟨(some 73),.mov (.t 308),none,0,0⟩,
 ⟨(some 74),.mov (.t 309),none,0,0⟩,
 ⟨(some 75),.mov (.t 310),none,0,0⟩,
 ⟨(some 76),.mov (.t 311),none,0,0⟩] false)
 (.seq
 (.region [⟨(some 312),.load 2 true (.t 66),none,0,0⟩,
 ⟨(some 313),.call 21 [(.t 312)],none,0,65538⟩,
 ⟨(some 77),.alloc [(.d (.sc (.int .u64 0))),(.own [] .full)],none,0,0⟩,
 ⟨none,.store 2 (.t 77) (.t 313),none,0,0⟩] false)
 (.seq
 (.region [⟨(some 314),.fieldAddr 1 (.t 77),none,0,0⟩,
 ⟨(some 315),.load 1 false (.t 314),none,0,0⟩,
 ⟨(some 316),.indexAddr 1 (.t 315) (.c (.d (.sc (.int .i64 16)))),none,0,0⟩,
 ⟨none,.store 1 (.t 316) (.c (.d (.sc (.int .u8 0)))),none,0,0⟩] false)
 (.seq
 (.region [⟨(some 318),.load 2 true (.t 77),none,0,0⟩,
 ⟨(some 319),.mov (.t 67),none,0,0⟩,
 ⟨(some 320),.callF 18 [(.t 318),(.t 319)],none,0,0⟩,
 ⟨(some 317),.mov (.t 320),none,0,0⟩,
 ⟨(some 321),.extract (.t 317) 0,none,0,0⟩,
 ⟨(some 322),.extract (.t 317) 1,none,0,0⟩,
 ⟨(some 323),.extract (.t 317) 2,none,0,0⟩,
 ⟨(some 324),.extract (.t 317) 3,none,0,0⟩,
 ⟨(some 78),.mov (.t 321),none,0,0⟩,
 ⟨(some 79),.mov (.t 322),none,0,0⟩,
 ⟨(some 80),.mov (.t 323),none,0,0⟩,
 ⟨(some 81),.mov (.t 324),none,0,0⟩] false)
 (.seq
 (.region [⟨(some 326),.load 2 true (.t 66),none,0,0⟩,
 ⟨(some 327),.mov (.t 67),none,0,0⟩,
 ⟨(some 328),.bin .sub (.t 327) (.c (.d (.sc (.int .u64 8)))),none,0,0⟩,
 ⟨(some 329),.call 19 [(.t 326),(.t 328)],none,0,0⟩,
 ⟨(some 325),.mov (.t 329),none,0,0⟩,
 ⟨(some 330),.extract (.t 325) 0,none,0,0⟩,
 ⟨(some 331),.extract (.t 325) 1,none,0,0⟩,
 ⟨(some 332),.extract (.t 325) 2,none,0,0⟩,
 ⟨(some 82),.alloc [(.d (.sc (.int .u64 0))),(.own [] .full)],none,0,0⟩,
 ⟨none,.store 2 (.t 82) (.t 330),none,0,0⟩,
 ⟨(some 83),.mov (.t 331),none,0,0⟩,
 ⟨(some 84),.mov (.t 332),none,0,0⟩] false)
 (.seq
 (.region [⟨(some 334),.load 2 true (.t 16),none,0,0⟩,
 ⟨(some 335),.load 3 true (.t 1),none,0,0⟩,
 ⟨(some 336),.call 20 [(.t 334),(.t 335),(.c (.d (.sc (.int .u64 513))))],none,0,0⟩,
 ⟨(some 333),.mov (.t 336),none,0,0⟩,
 ⟨(some 337),.extract (.t 333) 0,none,0,0⟩,
 ⟨(some 338),.extract (.t 333) 1,none,0,0⟩,
 ⟨(some 85),.mov (.t 337),none,0,0⟩,
 ⟨(some 86),.mov (.t 338),none,0,0⟩] false)
 (.seq
 (.region [⟨(some 340),.load 2 true (.t 66),none,0,0⟩,
 ⟨(some 341),.load 3 true (.t 1),none,0,0⟩,
 ⟨(some 342),.call 20 [(.t 340),(.t 341),(.c (.d (.sc (.int .u64 512))))],none,0,0⟩,
 ⟨(some 339),.mov (.t 342),none,0,0⟩,
 ⟨(some 343),.extract (.t 339) 0,none,0,0⟩,
 ⟨(some 344),.extract (.t 339) 1,none,0,0⟩,
 ⟨(some 87),.mov (.t 343),none,0,0⟩,
 ⟨(some 88),.mov (.t 344),none,0,0⟩] false)
 (.seq
 (.region [⟨(some 346),.load 2 true (.t 66),none,0,0⟩,
 ⟨(some 347),.load 3 true (.t 1),none,0,0⟩,
 ⟨(some 348),.call 20 [(.t 346),(.t 347),(.c (.d (.sc (.int .u64 0))))],none,0,0⟩,
 ⟨(some 345),.mov (.t 348),none,0,0⟩,
 ⟨(some 349),.extract (.t 345) 0,none,0,0⟩,
 ⟨(some 350),.extract (.t 345) 1,none,0,0⟩,
 ⟨(some 89),.mov (.t 349),none,0,0⟩,
 ⟨(some 90),.mov (.t 350),none,0,0⟩] false)
 (.seq
 (.region [⟨(some 351),.mov (.c (.d (.sc (.bool true)))),none,0,0⟩,
 ⟨(some 352),.callF 11 [],(some (351,true)),0,0⟩,
 ⟨(some 353),.pick (.t 351) (.t 352) (.c (.d (.sc (.bool false)))),none,0,0⟩,
 ⟨(some 354),.mov (.t 353),none,0,0⟩,
 ⟨(some 355),.mov (.t 20),(some (354,true)),0,0⟩,
 ⟨(some 356),.bin .eql (.t 355) (.c (.d (.sc (.int .i64 8)))),(some (354,true)),0,0⟩,
 ⟨(some 357),.pick (.t 354) (.t 356) (.c (.d (.sc (.bool false)))),none,0,0⟩,
 ⟨(some 358),.mov (.t 357),none,0,0⟩,
 ⟨(some 359),.mov (.t 23),(some (358,true)),0,0⟩,
 ⟨(some 360),.bin .eql (.t 359) (.c (.d (.sc (.int .i64 2)))),(some (358,true)),0,0⟩,
 ⟨(some 361),.pick (.t 358) (.t 360) (.c (.d (.sc (.bool false)))),none,0,0⟩,
 ⟨(some 362),.mov (.t 361),none,0,0⟩,
 ⟨(some 363),.mov (.t 26),(some (362,true)),0,0⟩,
 ⟨(some 364),.bin .eql (.t 363) (.c (.d (.sc (.int .i64 2)))),(some (362,true)),0,0⟩,
 ⟨(some 365),.pick (.t 362) (.t 364) (.c (.d (.sc (.bool false)))),none,0,0⟩,
 ⟨(some 366),.mov (.t 365),none,0,0⟩,
 ⟨(some 367),.mov (.t 29),(some (366,true)),0,0⟩,
 ⟨(some 368),.bin .eql (.t 367) (.c (.d (.sc (.int .i64 2)))),(some (366,true)),0,0⟩,
 ⟨(some 369),.pick (.t 366) (.t 368) (.c (.d (.sc (.bool false)))),none,0,0⟩,
 ⟨(some 370),.mov (.t 369),none,0,0⟩,
 ⟨(some 371),.mov (.t 31),(some (370,true)),0,0⟩,
 ⟨(some 372),.bin .eql (.t 371) (.c (.d (.sc (.int .i64 8)))),(some (370,true)),0,0⟩,
 ⟨(some 373),.pick (.t 370) (.t 372) (.c (.d (.sc (.bool false)))),none,0,0⟩,
 ⟨(some 374),.mov (.t 373),none,0,0⟩,
 ⟨(some 375),.mov (.t 33),(some (374,true)),0,0⟩,
 ⟨(some 376),.bin .eql (.t 375) (.c (.d (.sc (.int .i64 6)))),(some (374,true)),0,0⟩,
 ⟨(some 377),.pick (.t 374) (.t 376) (.c (.d (.sc (.bool false)))),none,0,0⟩,
 ⟨(some 378),.mov (.t 377),none,0,0⟩,
 ⟨(some 379),.mov (.t 36),(some (378,true)),0,0⟩,
 ⟨(some 380),.bin .eql (.t 379) (.c (.d (.sc (.int .i64 16)))),(some (378,true)),0,0⟩,
 ⟨(some 381),.pick (.t 378) (.t 380) (.c (.d (.sc (.bool false)))),none,0,0⟩,
 ⟨(some 382),.mov (.t 381),none,0,0⟩,
 ⟨(some 383),.mov (.t 38),(some (382,true)),0,0⟩,
 ⟨(some 384),.bin .eql (.t 383) (.c (.d (.sc (.int .i64 16)))),(some (382,true)),0,0⟩,
 ⟨(some 385),.pick (.t 382) (.t 384) (.c (.d (.sc (.bool false)))),none,0,0⟩,
 ⟨(some 386),.mov (.t 385),none,0,0⟩,
 ⟨(some 387),.mov (.t 41),(some (386,true)),0,0⟩,
 ⟨(some 388),.bin .eql (.t 387) (.c (.d (.sc (.int .i64 8)))),(some (386,true)),0,0⟩,
 ⟨(some 389),.pick (.t 386) (.t 388) (.c (.d (.sc (.bool false)))),none,0,0⟩,
 ⟨(some 390),.mov (.t 389),none,0,0⟩,
 ⟨(some 391),.mov (.t 44),(some (390,true)),0,0⟩,
 ⟨(some 392),.bin .eql (.t 391) (.c (.d (.sc (.int .i64 2)))),(some (390,true)),0,0⟩,
 ⟨(some 393),.pick (.t 390) (.t 392) (.c (.d (.sc (.bool false)))),none,0,0⟩,
 ⟨(some 394),.mov (.t 393),none,0,0⟩,
 ⟨(some 395),.mov (.t 47),(some (394,true)),0,0⟩,
 ⟨(some 396),.bin .eql (.t 395) (.c (.d (.sc (.int .i64 2)))),(some (394,true)),0,0⟩,
 ⟨(some 397),.pick (.t 394) (.t 396) (.c (.d (.sc (.bool false)))),none,0,0⟩,
 ⟨(some 398),.mov (.t 397),none,0,0⟩,
 ⟨(some 399),.mov (.t 50),(some (398,true)),0,0⟩,
 ⟨(some 400),.bin .eql (.t 399) (.c (.d (.sc (.int .i64 2)))),(some (398,true)),0,0⟩,
 ⟨(some 401),.pick (.t 398) (.t 400) (.c (.d (.sc (.bool false)))),none,0,0⟩,
 ⟨(some 402),.mov (.t 401),none,0,0⟩,
 ⟨(some 403),.mov (.t 53),(some (402,true)),0,0⟩,
 ⟨(some 404),.bin .eql (.t 403) (.c (.d (.sc (.int .i64 2)))),(some (402,true)),0,0⟩,
 ⟨(some 405),.pick (.t 402) (.t 404) (.c (.d (.sc (.bool false)))),none,0,0⟩,
 ⟨(some 406),.mov (.t 405),none,0,0⟩,
 ⟨(some 407),.mov (.t 56),(some (406,true)),0,0⟩,
 ⟨(some 408),.bin .eql (.t 407) (.c (.d (.sc (.int .i64 2)))),(some (406,true)),0,0⟩,
 ⟨(some 409),.pick (.t 406) (.t 408) (.c (.d (.sc (.bool false)))),none,0,0⟩,
 ⟨(some 410),.mov (.t 409),none,0,0⟩,
 ⟨(some 411),.mov (.t 59),(some (410,true)),0,0⟩,
 ⟨(some 412),.bin .eql (.t 411) (.c (.d (.sc (.int .i64 2)))),(some (410,true)),0,0⟩,
 ⟨(some 413),.pick (.t 410) (.t 412) (.c (.d (.sc (.bool false)))),none,0,0⟩,
 ⟨(some 414),.mov (.t 413),none,0,0⟩,
 ⟨(some 415),.mov (.t 62),(some (414,true)),0,0⟩,
 ⟨(some 416),.bin .eql (.t 415) (.c (.d (.sc (.int .i64 2)))),(some (414,true)),0,0⟩,
 ⟨(some 417),.pick (.t 414) (.t 416) (.c (.d (.sc (.bool false)))),none,0,0⟩,
 ⟨(some 418),.mov (.t 417),none,0,0⟩,
 ⟨(some 419),.mov (.t 65),(some (418,true)),0,0⟩,
 ⟨(some 420),.bin .eql (.t 419) (.c (.d (.sc (.int .i64 18)))),(some (418,true)),0,0⟩,
 ⟨(some 421),.pick (.t 418) (.t 420) (.c (.d (.sc (.bool false)))),none,0,0⟩,
 ⟨(some 422),.mov (.t 421),none,0,0⟩,
 ⟨(some 423),.mov (.t 68),(some (422,true)),0,0⟩,
 ⟨(some 424),.bin .eql (.t 423) (.c (.d (.sc (.int .i64 0)))),(some (422,true)),0,0⟩,
 ⟨(some 425),.pick (.t 422) (.t 424) (.c (.d (.sc (.bool false)))),none,0,0⟩,
 ⟨(some 426),.mov (.t 425),none,0,0⟩,
 ⟨(some 427),.mov (.t 72),(some (426,true)),0,0⟩,
 ⟨(some 428),.bin .eql (.t 427) (.c (.d (.sc (.int .i64 16)))),(some (426,true)),0,0⟩,
 ⟨(some 429),.pick (.t 426) (.t 428) (.c (.d (.sc (.bool false)))),none,0,0⟩,
 ⟨(some 430),.mov (.t 429),none,0,0⟩,
 ⟨(some 431),.mov (.t 76),(some (430,true)),0,0⟩,
 ⟨(some 432),.bin .eql (.t 431) (.c (.d (.sc (.int .i64 16)))),(some (430,true)),0,0⟩,
 ⟨(some 433),.pick (.t 430) (.t 432) (.c (.d (.sc (.bool false)))),none,0,0⟩,
 ⟨(some 434),.mov (.t 433),none,0,0⟩,
 ⟨(some 435),.mov (.t 81),(some (434,true)),0,0⟩,
 ⟨(some 436),.bin .eql (.t 435) (.c (.d (.sc (.int .i64 12)))),(some (434,true)),0,0⟩,
 ⟨(some 437),.pick (.t 434) (.t 436) (.c (.d (.sc (.bool false)))),none,0,0⟩,
 ⟨(some 438),.mov (.t 437),none,0,0⟩,
 ⟨(some 439),.mov (.t 84),(some (438,true)),0,0⟩,
 ⟨(some 440),.bin .eql (.t 439) (.c (.d (.sc (.int .i64 16)))),(some (438,true)),0,0⟩,
 ⟨(some 441),.pick (.t 438) (.t 440) (.c (.d (.sc (.bool false)))),none,0,0⟩,
 ⟨(some 442),.mov (.t 441),none,0,0⟩,
 ⟨(some 443),.mov (.t 86),(some (442,true)),0,0⟩,
 ⟨(some 444),.bin .eql (.t 443) (.c (.d (.sc (.int .i64 16)))),(some (442,true)),0,0⟩,
 ⟨(some 445),.pick (.t 442) (.t 444) (.c (.d (.sc (.bool false)))),none,0,0⟩,
 ⟨(some 446),.mov (.t 445),none,0,0⟩,
 ⟨(some 447),.mov (.t 88),(some (446,true)),0,0⟩,
 ⟨(some 448),.bin .eql (.t 447) (.c (.d (.sc (.int .i64 16)))),(some (446,true)),0,0⟩,
 ⟨(some 449),.pick (.t 446) (.t 448) (.c (.d (.sc (.bool false)))),none,0,0⟩,
 ⟨(some 450),.mov (.t 449),none,0,0⟩,
 ⟨(some 451),.mov (.t 90),(some (450,true)),0,0⟩,
 ⟨(some 452),.bin .eql (.t 451) (.c (.d (.sc (.int .i64 6)))),(some (450,true)),0,0⟩,
 ⟨(some 453),.pick (.t 450) (.t 452) (.c (.d (.sc (.bool false)))),none,0,0⟩,
 ⟨(some 454),.mov (.t 453),none,0,0⟩,
 ⟨(some 455),.callF 22 [],(some (454,true)),0,0⟩,
 ⟨(some 456),.pick (.t 454) (.t 455) (.c (.d (.sc (.bool false)))),none,0,0⟩,
 ⟨(some 0),.mov (.t 456),none,0,0⟩] false)
 .ret))))))))))))))))))))))))))))))))))))),false⟩
def t7:AFn:=⟨3,62,[.t 6,.t 7,.t 8],
 (.seq
 (.region [⟨(some 3),.box (.t 0),none,0,0⟩,
 ⟨(some 6),.mov (.c (.d (.sc (.int .i64 0)))),none,0,0⟩,
 ⟨(some 7),.mov (.c (.d (.sc (.int .i64 0)))),none,0,0⟩,
 ⟨(some 8),.mov (.c (.d (.sc (.int .i64 0)))),none,0,0⟩] false)
 (.seq
 (.seq
 (.region [⟨(some 12),.load 3 true (.t 3),none,0,0⟩,
 ⟨(some 13),.callF 24 [(.t 12)],none,0,0⟩,
 ⟨(some 9),.mov (.t 13),none,0,0⟩] false)
 (.seq
 (.region [⟨(some 14),.mov (.t 9),none,0,0⟩,
 ⟨(some 15),.bin .neq (.t 14) (.c (.d (.sc (.int .i64 0)))),none,0,0⟩] false)
 (.cond (.t 15)
 (.seq
 (.region [⟨(some 16),.mov (.t 9),none,0,0⟩,
 ⟨(some 6),.mov (.c (.d (.sc (.int .i64 0)))),none,0,0⟩,
 ⟨(some 7),.mov (.c (.d (.sc (.int .i64 0)))),none,0,0⟩,
 ⟨(some 8),.mov (.t 16),none,0,0⟩] false)
 .ret)
 .skip)))
 (.seq
 (.seq
 (.region [⟨(some 17),.mov (.t 1),none,0,0⟩,
 ⟨(some 18),.bin .lss (.t 17) (.c (.d (.sc (.int .i64 0)))),none,0,0⟩,
 ⟨(some 19),.mov (.t 18),none,0,0⟩,
 ⟨(some 20),.mov (.t 1),(some (19,false)),0,0⟩,
 ⟨(some 21),.fieldAddr 2 (.t 3),(some (19,false)),0,0⟩,
 ⟨(some 22),.load 1 false (.t 21),(some (19,false)),0,0⟩,
 ⟨(some 23),.len (.t 22),(some (19,false)),0,0⟩,
 ⟨(some 24),.bin .geq (.t 20) (.t 23),(some (19,false)),0,0⟩,
 ⟨(some 25),.pick (.t 19) (.c (.d (.sc (.bool true)))) (.t 24),none,0,0⟩,
 ⟨(some 26),.mov (.t 25),none,0,0⟩,
 ⟨(some 27),.mov (.t 2),(some (26,false)),0,0⟩,
 ⟨(some 28),.bin .lss (.t 27) (.c (.d (.sc (.int .i64 0)))),(some (26,false)),0,0⟩,
 ⟨(some 29),.pick (.t 26) (.c (.d (.sc (.bool true)))) (.t 28),none,0,0⟩,
 ⟨(some 30),.mov (.t 29),none,0,0⟩,
 ⟨(some 31),.mov (.t 2),(some (30,false)),0,0⟩,
 ⟨(some 32),.fieldAddr 2 (.t 3),(some (30,false)),0,0⟩,
 ⟨(some 33),.load 1 false (.t 32),(some (30,false)),0,0⟩,
 ⟨(some 34),.mov (.t 1),(some (30,false)),0,0⟩,
 ⟨(some 35),.indexAddr 7 (.t 33) (.t 34),(some (30,false)),0,0⟩,
 ⟨(some 36),.fieldAddr 3 (.t 35),(some (30,false)),0,0⟩,
 ⟨(some 37),.load 1 false (.t 36),(some (30,false)),0,0⟩,
 ⟨(some 38),.len (.t 37),(some (30,false)),0,0⟩,
 ⟨(some 39),.bin .geq (.t 31) (.t 38),(some (30,false)),0,0⟩,
 ⟨(some 40),.pick (.t 30) (.c (.d (.sc (.bool true)))) (.t 39),none,0,0⟩] false)
 (.cond (.t 40)
 (.seq
 (.region [⟨(some 6),.mov (.c (.d (.sc (.int .i64 0)))),none,0,0⟩,
 ⟨(some 7),.mov (.c (.d (.sc (.int .i64 0)))),none,0,0⟩,
 ⟨(some 8),.mov (.c (.d (.sc (.int .i64 2)))),none,0,0⟩] false)
 .ret)
 .skip))
 (.seq
 (.region [⟨(some 42),.load 3 true (.t 3),none,0,0⟩,
 ⟨(some 43),.mov (.t 1),none,0,0⟩,
 ⟨(some 44),.call 25 [(.t 42),(.t 43)],none,0,0⟩,
 ⟨(some 41),.mov (.t 44),none,0,0⟩,
 ⟨(some 45),.extract (.t 41) 0,none,0,0⟩,
 ⟨(some 46),.extract (.t 41) 1,none,0,0⟩,
 ⟨(some 10),.mov (.t 45),none,0,0⟩,
 ⟨(some 11),.mov (.t 46),none,0,0⟩] false)
 (.seq
 (.region [⟨(some 47),.mov (.t 10),none,0,0⟩,
 ⟨(some 48),.mov (.t 2),none,0,0⟩,
 ⟨(some 49),.indexAddr 1 (.t 47) (.t 48),none,3,0⟩,
 ⟨(some 50),.load 1 false (.t 49),none,7,0⟩,
 ⟨(some 51),.bin .add (.c (.d (.sc (.int .i64 24)))) (.t 50),none,15,0⟩,
 ⟨(some 52),.fieldAddr 2 (.t 3),none,0,0⟩,
 ⟨(some 53),.load 1 false (.t 52),none,32,0⟩,
 ⟨(some 54),.mov (.t 1),none,0,0⟩,
 ⟨(some 55),.indexAddr 7 (.t 53) (.t 54),none,224,0⟩,
 ⟨(some 56),.fieldAddr 3 (.t 55),none,480,0⟩,
 ⟨(some 57),.load 1 false (.t 56),none,992,0⟩,
 ⟨(some 58),.mov (.t 2),none,0,0⟩,
 ⟨(some 59),.indexAddr 2 (.t 57) (.t 58),none,4064,0⟩,
 ⟨(some 60),.fieldAddr 1 (.t 59),none,8160,0⟩,
 ⟨(some 61),.load 1 false (.t 60),none,16352,0⟩,
 ⟨(some 6),.mov (.t 51),none,31,0⟩,
 ⟨(some 7),.mov (.t 61),none,65535,0⟩,
 ⟨(some 8),.mov (.c (.d (.sc (.int .i64 0)))),none,131071,0⟩] true)
 .ret))))),false⟩
def t9:AFn:=⟨2,62,[.t 4,.t 5],
 (.seq
 (.region [⟨(some 2),.box (.t 0),none,0,0⟩,
 ⟨(some 4),.mov (.c (.d (.sc (.int .i64 0)))),none,0,0⟩,
 ⟨(some 5),.mov (.c (.d (.sc (.int .i64 0)))),none,0,0⟩] false)
 (.seq
 (.region [⟨(some 14),.load 3 true (.t 2),none,0,0⟩,
 ⟨(some 15),.mov (.t 1),none,0,0⟩,
 ⟨(some 16),.callF 27 [(.t 14),(.t 15)],none,0,0⟩,
 ⟨(some 13),.mov (.t 16),none,0,0⟩,
 ⟨(some 17),.extract (.t 13) 0,none,0,0⟩,
 ⟨(some 18),.extract (.t 13) 1,none,0,0⟩,
 ⟨(some 19),.extract (.t 13) 2,none,0,0⟩,
 ⟨(some 6),.mov (.t 17),none,0,0⟩,
 ⟨(some 7),.mov (.t 18),none,0,0⟩,
 ⟨(some 8),.mov (.t 19),none,0,0⟩] false)
 (.seq
 (.seq
 (.region [⟨(some 20),.mov (.t 8),none,0,0⟩,
 ⟨(some 21),.bin .neq (.t 20) (.c (.d (.sc (.int .i64 0)))),none,0,0⟩] false)
 (.cond (.t 21)
 (.seq
 (.region [⟨(some 22),.mov (.t 8),none,0,0⟩,
 ⟨(some 4),.mov (.c (.d (.sc (.int .i64 0)))),none,0,0⟩,
 ⟨(some 5),.mov (.t 22),none,0,0⟩] false)
 .ret)
 .skip))
 (.seq
 (.region [⟨(some 24),.load 3 true (.t 2),none,0,0⟩,
 ⟨(some 25),.mov (.t 6),none,0,0⟩,
 ⟨(some 26),.call 25 [(.t 24),(.t 25)],none,0,0⟩,
 ⟨(some 23),.mov (.t 26),none,0,0⟩,
 ⟨(some 27),.extract (.t 23) 0,none,0,0⟩,
 ⟨(some 28),.extract (.t 23) 1,none,0,0⟩,
 ⟨(some 9),.mov (.t 27),none,0,0⟩,
 ⟨(some 10),.mov (.t 28),none,0,0⟩] false)
 (.seq
 (.region [⟨(some 30),.fieldAddr 2 (.t 2),none,0,0⟩,
 ⟨(some 31),.load 1 false (.t 30),none,1,0⟩,
 ⟨(some 32),.mov (.t 6),none,0,0⟩,
 ⟨(some 33),.indexAddr 7 (.t 31) (.t 32),none,7,0⟩,
 ⟨(some 34),.fieldAddr 5 (.t 33),none,15,0⟩,
 ⟨(some 35),.load 1 false (.t 34),none,31,0⟩,
 ⟨(some 36),.fieldAddr 2 (.t 2),none,0,0⟩,
 ⟨(some 37),.load 1 false (.t 36),none,64,0⟩,
 ⟨(some 38),.mov (.t 6),none,0,0⟩,
 ⟨(some 39),.indexAddr 7 (.t 37) (.t 38),none,448,0⟩,
 ⟨(some 40),.fieldAddr 4 (.t 39),none,960,0⟩,
 ⟨(some 41),.load 1 false (.t 40),none,1984,0⟩,
 ⟨(some 42),.len (.t 41),none,4032,0⟩,
 ⟨(some 43),.mov (.t 7),none,0,0⟩,
 ⟨(some 44),.callF 28 [(.t 35),(.t 42),(.t 43)],none,16383,0⟩,
 ⟨(some 29),.mov (.t 44),none,32767,0⟩,
 ⟨(some 45),.extract (.t 29) 0,none,65535,0⟩,
 ⟨(some 46),.extract (.t 29) 1,none,65535,0⟩,
 ⟨(some 11),.mov (.t 45),none,131071,0⟩,
 ⟨(some 12),.mov (.t 46),none,524287,0⟩] true)
 (.seq
 (.seq
 (.region [⟨(some 47),.mov (.t 11),none,0,0⟩,
 ⟨(some 48),.bin .gtr (.t 47) (.c (.d (.sc (.int .u64 4096)))),none,0,0⟩,
 ⟨(some 49),.mov (.t 48),none,0,0⟩,
 ⟨(some 50),.mov (.t 10),(some (49,false)),0,0⟩,
 ⟨(some 51),.bin .add (.c (.d (.sc (.int .i64 24)))) (.t 50),(some (49,false)),0,0⟩,
 ⟨(some 52),.mov (.t 11),(some (49,false)),0,0⟩,
 ⟨(some 53),.conv .i64 (.t 52),(some (49,false)),0,0⟩,
 ⟨(some 54),.bin .add (.t 51) (.t 53),(some (49,false)),0,0⟩,
 ⟨(some 55),.bin .gtr (.t 54) (.c (.d (.sc (.int .i64 4096)))),(some (49,false)),0,0⟩,
 ⟨(some 56),.pick (.t 49) (.c (.d (.sc (.bool true)))) (.t 55),none,0,0⟩] false)
 (.cond (.t 56)
 (.seq
 (.region [⟨(some 4),.mov (.c (.d (.sc (.int .i64 0)))),none,0,0⟩,
 ⟨(some 5),.mov (.c (.d (.sc (.int .i64 16)))),none,0,0⟩] false)
 .ret)
 .skip))
 (.seq
 (.region [⟨(some 57),.mov (.t 10),none,0,0⟩,
 ⟨(some 58),.bin .add (.c (.d (.sc (.int .i64 24)))) (.t 57),none,0,0⟩,
 ⟨(some 59),.mov (.t 11),none,0,0⟩,
 ⟨(some 60),.conv .i64 (.t 59),none,0,0⟩,
 ⟨(some 61),.bin .add (.t 58) (.t 60),none,0,0⟩,
 ⟨(some 4),.mov (.t 61),none,0,0⟩,
 ⟨(some 5),.mov (.c (.d (.sc (.int .i64 0)))),none,0,0⟩] false)
 .ret))))))),false⟩
def t11:AFn:=⟨0,130,[.t 0],
 (.seq
 (.region [⟨(some 0),.mov (.c (.d (.sc (.bool false)))),none,0,0⟩] false)
 (.seq
 (.region [⟨(some 17),.call 16 [],none,0,0⟩,
 ⟨(some 1),.alloc [(.own [] .full),(.own [] .full),(.own [] .full)],none,0,0⟩,
 ⟨none,.store 3 (.t 1) (.t 17),none,0,0⟩] false)
 (.seq
 (.region [⟨(some 19),.load 3 true (.t 1),none,0,0⟩,
 ⟨(some 20),.callF 7 [(.t 19),(.c (.d (.sc (.int .i64 1)))),(.c (.d (.sc (.int .i64 0))))],none,0,0⟩,
 ⟨(some 18),.mov (.t 20),none,0,0⟩,
 ⟨(some 21),.extract (.t 18) 0,none,0,0⟩,
 ⟨(some 22),.extract (.t 18) 1,none,0,0⟩,
 ⟨(some 23),.extract (.t 18) 2,none,0,0⟩,
 ⟨(some 2),.mov (.t 21),none,0,0⟩,
 ⟨(some 3),.mov (.t 22),none,0,0⟩,
 ⟨(some 4),.mov (.t 23),none,0,0⟩] false)
 (.seq
 (.region [⟨(some 25),.load 3 true (.t 1),none,0,0⟩,
 ⟨(some 26),.callF 7 [(.t 25),(.c (.d (.sc (.int .i64 1)))),(.c (.d (.sc (.int .i64 1))))],none,0,0⟩,
 ⟨(some 24),.mov (.t 26),none,0,0⟩,
 ⟨(some 27),.extract (.t 24) 0,none,0,0⟩,
 ⟨(some 28),.extract (.t 24) 1,none,0,0⟩,
 ⟨(some 29),.extract (.t 24) 2,none,0,0⟩,
 ⟨(some 5),.mov (.t 27),none,0,0⟩,
 ⟨(some 6),.mov (.t 28),none,0,0⟩,
 ⟨(some 7),.mov (.t 29),none,0,0⟩] false)
 (.seq
 (.region [⟨(some 31),.load 3 true (.t 1),none,0,0⟩,
 ⟨(some 32),.callF 9 [(.t 31),(.c (.d (.sc (.int .u64 513))))],none,0,0⟩,
 ⟨(some 30),.mov (.t 32),none,0,0⟩,
 ⟨(some 33),.extract (.t 30) 0,none,0,0⟩,
 ⟨(some 34),.extract (.t 30) 1,none,0,0⟩,
 ⟨(some 8),.mov (.t 33),none,0,0⟩,
 ⟨(some 9),.mov (.t 34),none,0,0⟩] false)
 (.seq
 (.region [⟨(some 36),.load 3 true (.t 1),none,0,0⟩,
 ⟨(some 37),.callF 9 [(.t 36),(.c (.d (.sc (.int .u64 512))))],none,0,0⟩,
 ⟨(some 35),.mov (.t 37),none,0,0⟩,
 ⟨(some 38),.extract (.t 35) 0,none,0,0⟩,
 ⟨(some 39),.extract (.t 35) 1,none,0,0⟩,
 ⟨(some 10),.mov (.t 38),none,0,0⟩,
 ⟨(some 11),.mov (.t 39),none,0,0⟩] false)
 (.seq
 (.region [⟨(some 41),.build [(.d (.sc (.int .u64 0))),(.own [] .full)] [(0,1,(.c (.d (.sc (.int .u64 16777216)))))],none,0,0⟩,
 ⟨(some 42),.load 3 true (.t 1),none,0,0⟩,
 ⟨(some 43),.buildSlice 1 8 [(.sc (.int .u8 0))] [(0,(.c (.d (.sc (.int .u8 1))))),(1,(.c (.d (.sc (.int .u8 0))))),(2,(.c (.d (.sc (.int .u8 0))))),(3,(.c (.d (.sc (.int .u8 0))))),(4,(.c (.d (.sc (.int .u8 0))))),(5,(.c (.d (.sc (.int .u8 0))))),(6,(.c (.d (.sc (.int .u8 0))))),(7,(.c (.d (.sc (.int .u8 0)))))],none,0,0⟩,
 ⟨(some 44),.call 17 [(.t 41),(.t 42),(.c (.d (.sc (.int .i64 1)))),(.c (.d (.sc (.int .u64 0)))),(.c (.d (.sc (.int .u64 0)))),(.c (.d (.sc (.int .u64 0)))),(.t 43),(.c (.d (.sc (.int .i64 100))))],none,0,0⟩,
 ⟨(some 40),.mov (.t 44),none,0,0⟩,
 ⟨(some 45),.extract (.t 40) 0,none,0,0⟩,
 ⟨(some 46),.extract (.t 40) 1,none,0,0⟩,
 ⟨(some 47),.extract (.t 40) 2,none,0,0⟩,
 ⟨(some 12),.alloc [(.d (.sc (.int .u64 0))),(.own [] .full)],none,0,0⟩,
 ⟨none,.store 2 (.t 12) (.t 45),none,0,0⟩,
 ⟨(some 13),.mov (.t 46),none,0,0⟩,
 ⟨(some 14),.mov (.t 47),none,0,0⟩] false)
 (.seq
 (.region [⟨(some 49),.load 2 true (.t 12),none,0,0⟩,
 ⟨(some 50),.load 3 true (.t 1),none,0,0⟩,
 ⟨(some 51),.call 20 [(.t 49),(.t 50),(.c (.d (.sc (.int .u64 513))))],none,0,0⟩,
 ⟨(some 48),.mov (.t 51),none,0,0⟩,
 ⟨(some 52),.extract (.t 48) 0,none,0,0⟩,
 ⟨(some 53),.extract (.t 48) 1,none,0,0⟩,
 ⟨(some 15),.mov (.t 52),none,0,0⟩,
 ⟨(some 16),.mov (.t 53),none,0,0⟩] false)
 (.seq
 (.region [⟨(some 54),.mov (.t 4),none,0,0⟩,
 ⟨(some 55),.bin .eql (.t 54) (.c (.d (.sc (.int .i64 0)))),none,0,0⟩,
 ⟨(some 56),.mov (.t 55),none,0,0⟩,
 ⟨(some 57),.mov (.t 7),(some (56,true)),0,0⟩,
 ⟨(some 58),.bin .eql (.t 57) (.c (.d (.sc (.int .i64 0)))),(some (56,true)),0,0⟩,
 ⟨(some 59),.pick (.t 56) (.t 58) (.c (.d (.sc (.bool false)))),none,0,0⟩,
 ⟨(some 60),.mov (.t 59),none,0,0⟩,
 ⟨(some 61),.mov (.t 9),(some (60,true)),0,0⟩,
 ⟨(some 62),.bin .eql (.t 61) (.c (.d (.sc (.int .i64 0)))),(some (60,true)),0,0⟩,
 ⟨(some 63),.pick (.t 60) (.t 62) (.c (.d (.sc (.bool false)))),none,0,0⟩,
 ⟨(some 64),.mov (.t 63),none,0,0⟩,
 ⟨(some 65),.mov (.t 11),(some (64,true)),0,0⟩,
 ⟨(some 66),.bin .eql (.t 65) (.c (.d (.sc (.int .i64 0)))),(some (64,true)),0,0⟩,
 ⟨(some 67),.pick (.t 64) (.t 66) (.c (.d (.sc (.bool false)))),none,0,0⟩,
 ⟨(some 68),.mov (.t 67),none,0,0⟩,
 ⟨(some 69),.mov (.t 14),(some (68,true)),0,0⟩,
 ⟨(some 70),.bin .eql (.t 69) (.c (.d (.sc (.int .i64 0)))),(some (68,true)),0,0⟩,
 ⟨(some 71),.pick (.t 68) (.t 70) (.c (.d (.sc (.bool false)))),none,0,0⟩,
 ⟨(some 72),.mov (.t 71),none,0,0⟩,
 ⟨(some 73),.mov (.t 16),(some (72,true)),0,0⟩,
 ⟨(some 74),.bin .eql (.t 73) (.c (.d (.sc (.int .i64 0)))),(some (72,true)),0,0⟩,
 ⟨(some 75),.pick (.t 72) (.t 74) (.c (.d (.sc (.bool false)))),none,0,0⟩,
 ⟨(some 76),.mov (.t 75),none,0,0⟩,
 ⟨(some 77),.mov (.t 2),(some (76,true)),0,0⟩,
 ⟨(some 78),.bin .eql (.t 77) (.c (.d (.sc (.int .i64 24)))),(some (76,true)),0,0⟩,
 ⟨(some 79),.pick (.t 76) (.t 78) (.c (.d (.sc (.bool false)))),none,0,0⟩,
 ⟨(some 80),.mov (.t 79),none,0,0⟩,
 ⟨(some 81),.mov (.t 3),(some (80,true)),0,0⟩,
 ⟨(some 82),.bin .eql (.t 81) (.c (.d (.sc (.int .i64 0)))),(some (80,true)),0,0⟩,
 ⟨(some 83),.pick (.t 80) (.t 82) (.c (.d (.sc (.bool false)))),none,0,0⟩,
 ⟨(some 84),.mov (.t 83),none,0,0⟩,
 ⟨(some 85),.mov (.t 5),(some (84,true)),0,0⟩,
 ⟨(some 86),.bin .eql (.t 85) (.c (.d (.sc (.int .i64 32)))),(some (84,true)),0,0⟩,
 ⟨(some 87),.pick (.t 84) (.t 86) (.c (.d (.sc (.bool false)))),none,0,0⟩,
 ⟨(some 88),.mov (.t 87),none,0,0⟩,
 ⟨(some 89),.mov (.t 6),(some (88,true)),0,0⟩,
 ⟨(some 90),.bin .eql (.t 89) (.c (.d (.sc (.int .i64 1)))),(some (88,true)),0,0⟩,
 ⟨(some 91),.pick (.t 88) (.t 90) (.c (.d (.sc (.bool false)))),none,0,0⟩,
 ⟨(some 92),.mov (.t 91),none,0,0⟩,
 ⟨(some 93),.mov (.t 8),(some (92,true)),0,0⟩,
 ⟨(some 94),.bin .eql (.t 93) (.c (.d (.sc (.int .i64 40)))),(some (92,true)),0,0⟩,
 ⟨(some 95),.pick (.t 92) (.t 94) (.c (.d (.sc (.bool false)))),none,0,0⟩,
 ⟨(some 96),.mov (.t 95),none,0,0⟩,
 ⟨(some 97),.mov (.t 10),(some (96,true)),0,0⟩,
 ⟨(some 98),.bin .eql (.t 97) (.c (.d (.sc (.int .i64 48)))),(some (96,true)),0,0⟩,
 ⟨(some 99),.pick (.t 96) (.t 98) (.c (.d (.sc (.bool false)))),none,0,0⟩,
 ⟨(some 100),.mov (.t 99),none,0,0⟩,
 ⟨(some 101),.mov (.t 13),(some (100,true)),0,0⟩,
 ⟨(some 102),.bin .eql (.t 101) (.c (.d (.sc (.int .u64 16777216)))),(some (100,true)),0,0⟩,
 ⟨(some 103),.pick (.t 100) (.t 102) (.c (.d (.sc (.bool false)))),none,0,0⟩,
 ⟨(some 104),.mov (.t 103),none,0,0⟩,
 ⟨(some 105),.fieldAddr 1 (.t 12),(some (104,true)),0,0⟩,
 ⟨(some 106),.load 1 false (.t 105),(some (104,true)),0,0⟩,
 ⟨(some 107),.len (.t 106),(some (104,true)),0,0⟩,
 ⟨(some 108),.bin .eql (.t 107) (.c (.d (.sc (.int .i64 40)))),(some (104,true)),0,0⟩,
 ⟨(some 109),.pick (.t 104) (.t 108) (.c (.d (.sc (.bool false)))),none,0,0⟩,
 ⟨(some 110),.mov (.t 109),none,0,0⟩,
 ⟨(some 111),.fieldAddr 1 (.t 12),(some (110,true)),0,0⟩,
 ⟨(some 112),.load 1 false (.t 111),(some (110,true)),0,0⟩,
 ⟨(some 113),.indexAddr 1 (.t 112) (.c (.d (.sc (.int .i64 24)))),(some (110,true)),0,0⟩,
 ⟨(some 114),.load 1 false (.t 113),(some (110,true)),0,0⟩,
 ⟨(some 115),.bin .eql (.t 114) (.c (.d (.sc (.int .u8 1)))),(some (110,true)),0,0⟩,
 ⟨(some 116),.pick (.t 110) (.t 115) (.c (.d (.sc (.bool false)))),none,0,0⟩,
 ⟨(some 117),.mov (.t 116),none,0,0⟩,
 ⟨(some 118),.mov (.t 15),(some (117,true)),0,0⟩,
 ⟨(some 119),.len (.t 118),(some (117,true)),0,0⟩,
 ⟨(some 120),.bin .eql (.t 119) (.c (.d (.sc (.int .i64 1)))),(some (117,true)),0,0⟩,
 ⟨(some 121),.pick (.t 117) (.t 120) (.c (.d (.sc (.bool false)))),none,0,0⟩,
 ⟨(some 122),.mov (.t 121),none,0,0⟩,
 ⟨(some 123),.mov (.t 15),(some (122,true)),0,0⟩,
 ⟨(some 124),.indexAddr 5 (.t 123) (.c (.d (.sc (.int .i64 0)))),(some (122,true)),0,0⟩,
 ⟨(some 125),.load 5 true (.t 124),(some (122,true)),0,0⟩,
 ⟨(some 126),.mov (.t 13),(some (122,true)),0,0⟩,
 ⟨(some 127),.build [(.d (.sc (.int .u64 0))),(.d (.sc (.int .i64 0))),(.d (.sc (.int .i64 0))),(.d (.sc (.int .u64 0))),(.d (.sc (.int .u64 0)))] [(0,1,(.t 126)),(1,1,(.c (.d (.sc (.int .i64 1))))),(2,1,(.c (.d (.sc (.int .i64 1)))))],(some (122,true)),0,0⟩,
 ⟨(some 128),.eqA false 5 [(0,1),(1,1),(2,1),(3,1),(4,1)] (.t 125) (.t 127),(some (122,true)),0,0⟩,
 ⟨(some 129),.pick (.t 122) (.t 128) (.c (.d (.sc (.bool false)))),none,0,0⟩,
 ⟨(some 0),.mov (.t 129),none,0,0⟩] false)
 .ret))))))))),false⟩
def t13:AFn:=⟨2,27,[.t 4,.t 5,.t 6],
 (.seq
 (.region [⟨(some 4),.mov (.c (.d (.sc (.int .i64 0)))),none,0,0⟩,
 ⟨(some 5),.mov (.c (.d (.sc (.int .i64 0)))),none,0,0⟩,
 ⟨(some 6),.mov (.c (.d (.sc (.int .i64 0)))),none,0,0⟩] false)
 (.seq
 (.region [⟨(some 9),.mov (.t 0),none,0,0⟩,
 ⟨(some 10),.mov (.t 1),none,0,0⟩,
 ⟨(some 11),.call 33 [(.t 9),(.t 10)],none,0,0⟩,
 ⟨(some 8),.mov (.t 11),none,0,0⟩,
 ⟨(some 12),.extract (.t 8) 0,none,0,0⟩,
 ⟨(some 13),.extract (.t 8) 1,none,0,0⟩,
 ⟨(some 7),.mov (.t 12),none,0,0⟩,
 ⟨(some 6),.mov (.t 13),none,0,0⟩] false)
 (.seq
 (.seq
 (.region [⟨(some 14),.mov (.t 6),none,0,0⟩,
 ⟨(some 15),.bin .neq (.t 14) (.c (.d (.sc (.int .i64 0)))),none,0,0⟩] false)
 (.cond (.t 15)
 (.seq
 (.region [⟨(some 16),.mov (.t 6),none,0,0⟩,
 ⟨(some 4),.mov (.c (.d (.sc (.int .i64 0)))),none,0,0⟩,
 ⟨(some 5),.mov (.c (.d (.sc (.int .i64 0)))),none,0,0⟩,
 ⟨(some 6),.mov (.t 16),none,0,0⟩] false)
 .ret)
 .skip))
 (.seq
 (.region [⟨(some 17),.mov (.t 7),none,0,0⟩,
 ⟨(some 18),.mov (.t 1),none,0,0⟩,
 ⟨(some 19),.indexAddr 2 (.t 17) (.t 18),none,3,0⟩,
 ⟨(some 20),.fieldAddr 0 (.t 19),none,7,0⟩,
 ⟨(some 21),.load 1 false (.t 20),none,15,0⟩,
 ⟨(some 22),.mov (.t 7),none,0,0⟩,
 ⟨(some 23),.mov (.t 1),none,0,0⟩,
 ⟨(some 24),.indexAddr 2 (.t 22) (.t 23),none,96,0⟩,
 ⟨(some 25),.fieldAddr 1 (.t 24),none,224,0⟩,
 ⟨(some 26),.load 1 false (.t 25),none,480,0⟩,
 ⟨(some 4),.mov (.t 21),none,31,0⟩,
 ⟨(some 5),.mov (.t 26),none,2047,0⟩,
 ⟨(some 6),.mov (.c (.d (.sc (.int .i64 0)))),none,4095,0⟩] true)
 .ret)))),false⟩
def t16:AFn:=⟨0,28,[.cell 0 3 true],
 (.seq
 (.region [⟨(some 0),.alloc [(.own [] .full),(.own [] .full),(.own [] .full)],none,0,0⟩] false)
 (.seq
 (.region [⟨(some 3),.build [(.d (.sc (.int .u8 0))),(.d (.sc (.int .i64 0))),(.d (.sc (.int .i64 0))),(.d (.sc (.int .i64 0)))] [(0,1,(.c (.d (.sc (.int .u8 31)))))],none,0,0⟩,
 ⟨(some 4),.build [(.d (.sc (.int .u8 0))),(.d (.sc (.int .i64 0))),(.d (.sc (.int .i64 0))),(.d (.sc (.int .i64 0)))] [(0,1,(.c (.d (.sc (.int .u8 34))))),(1,1,(.c (.d (.sc (.int .i64 (-1))))))],none,0,0⟩,
 ⟨(some 5),.buildSlice 4 2 [(.sc (.int .u8 0)),(.sc (.int .i64 0)),(.sc (.int .i64 0)),(.sc (.int .i64 0))] [(0,(.t 3)),(1,(.t 4))],none,0,0⟩,
 ⟨(some 1),.mov (.t 5),none,0,0⟩] false)
 (.seq
 (.region [⟨(some 6),.build [(.d (.sc (.string ⟨#[]⟩))),(.d (.sc (.int .i64 0)))] [(0,1,(.c (.d (.sc (.string ⟨#[97]⟩))))),(1,1,(.c (.d (.sc (.int .i64 0)))))],none,0,0⟩,
 ⟨(some 7),.build [(.d (.sc (.string ⟨#[]⟩))),(.d (.sc (.int .i64 0)))] [(0,1,(.c (.d (.sc (.string ⟨#[98]⟩))))),(1,1,(.c (.d (.sc (.int .i64 1)))))],none,0,0⟩,
 ⟨(some 8),.buildSlice 2 2 [(.sc (.string ⟨#[]⟩)),(.sc (.int .i64 0))] [(0,(.t 6)),(1,(.t 7))],none,0,0⟩,
 ⟨(some 2),.mov (.t 8),none,0,0⟩] false)
 (.seq
 (.region [⟨(some 9),.build [(.d (.sc (.int .u8 0))),(.d (.sc (.int .i64 0))),(.d (.sc (.int .i64 0))),(.own [] .full)] [(0,1,(.c (.d (.sc (.int .u8 1)))))],none,0,0⟩,
 ⟨(some 10),.build [(.d (.sc (.int .u8 0))),(.d (.sc (.int .i64 0))),(.d (.sc (.int .i64 0))),(.own [] .full)] [(0,1,(.c (.d (.sc (.int .u8 2)))))],none,0,0⟩,
 ⟨(some 11),.buildSlice 4 2 [(.sc (.int .u8 0)),(.sc (.int .i64 0)),(.sc (.int .i64 0)),(.sl [])] [(0,(.t 9)),(1,(.t 10))],none,0,0⟩,
 ⟨(some 12),.mov (.t 1),none,0,0⟩,
 ⟨(some 13),.build [(.d (.sc (.int .i64 0))),(.d (.sc (.int .u64 0)))] [],none,0,0⟩,
 ⟨(some 14),.buildSlice 2 1 [(.sc (.int .i64 0)),(.sc (.int .u64 0))] [(0,(.t 13))],none,0,0⟩,
 ⟨(some 15),.build [(.d (.sc (.int .i64 0))),(.d (.sc (.int .u64 0)))] [],none,0,0⟩,
 ⟨(some 16),.buildSlice 2 1 [(.sc (.int .i64 0)),(.sc (.int .u64 0))] [(0,(.t 15))],none,0,0⟩,
 ⟨(some 17),.build [(.d (.sc (.string ⟨#[]⟩))),(.d (.sc (.int .i64 0))),(.d (.sc (.int .i64 0))),(.own [] .full),(.own [] .full),(.own [] .full),(.own [] .full)] [(0,1,(.c (.d (.sc (.string ⟨#[109,97,105,110]⟩))))),(2,1,(.c (.d (.sc (.int .i64 (-1)))))),(4,1,(.t 12)),(5,1,(.t 14)),(6,1,(.t 16))],none,0,0⟩,
 ⟨(some 18),.mov (.t 2),none,0,0⟩,
 ⟨(some 19),.mov (.t 1),none,0,0⟩,
 ⟨(some 20),.build [(.d (.sc (.int .i64 0))),(.d (.sc (.int .u64 0)))] [(1,1,(.c (.d (.sc (.int .u64 8)))))],none,0,0⟩,
 ⟨(some 21),.build [(.d (.sc (.int .i64 0))),(.d (.sc (.int .u64 0)))] [(0,1,(.c (.d (.sc (.int .i64 1)))))],none,0,0⟩,
 ⟨(some 22),.buildSlice 2 2 [(.sc (.int .i64 0)),(.sc (.int .u64 0))] [(0,(.t 20)),(1,(.t 21))],none,0,0⟩,
 ⟨(some 23),.build [(.d (.sc (.int .i64 0))),(.d (.sc (.int .u64 0)))] [],none,0,0⟩,
 ⟨(some 24),.buildSlice 2 1 [(.sc (.int .i64 0)),(.sc (.int .u64 0))] [(0,(.t 23))],none,0,0⟩,
 ⟨(some 25),.build [(.d (.sc (.string ⟨#[]⟩))),(.d (.sc (.int .i64 0))),(.d (.sc (.int .i64 0))),(.own [] .full),(.own [] .full),(.own [] .full),(.own [] .full)] [(0,1,(.c (.d (.sc (.string ⟨#[102]⟩))))),(1,1,(.c (.d (.sc (.int .i64 1))))),(2,1,(.c (.d (.sc (.int .i64 (-1)))))),(3,1,(.t 18)),(4,1,(.t 19)),(5,1,(.t 22)),(6,1,(.t 24))],none,0,0⟩,
 ⟨(some 26),.buildSlice 7 2 [(.sc (.string ⟨#[]⟩)),(.sc (.int .i64 0)),(.sc (.int .i64 0)),(.sl []),(.sl []),(.sl []),(.sl [])] [(0,(.t 17)),(1,(.t 25))],none,0,1⟩,
 ⟨(some 27),.build [(.own [] .full),(.own [] .full),(.own [] .full)] [(0,1,(.t 11)),(2,1,(.t 26))],none,0,0⟩,
 ⟨none,.store 3 (.t 0) (.t 27),none,0,0⟩] false)
 .ret)))),false⟩
def t17:AFn:=⟨8,186,[.cell 16 2 true,.t 17,.t 18],
 (.seq
 (.region [⟨(some 8),.box (.t 0),none,0,0⟩,
 ⟨(some 9),.box (.t 1),none,0,0⟩,
 ⟨(some 16),.alloc [(.d (.sc (.int .u64 0))),(.own [] .full)],none,0,0⟩,
 ⟨(some 17),.mov (.c (.d (.sc (.int .u64 0)))),none,0,0⟩,
 ⟨(some 18),.mov (.c (.d (.sc (.int .i64 0)))),none,0,0⟩] false)
 (.seq
 (.seq
 (.region [⟨(some 35),.load 2 true (.t 8),none,0,0⟩,
 ⟨(some 36),.callF 35 [(.t 35)],none,0,0⟩,
 ⟨(some 19),.mov (.t 36),none,0,0⟩] false)
 (.seq
 (.region [⟨(some 37),.mov (.t 19),none,0,0⟩,
 ⟨(some 38),.bin .neq (.t 37) (.c (.d (.sc (.int .i64 0)))),none,0,0⟩] false)
 (.cond (.t 38)
 (.seq
 (.region [⟨(some 39),.build [(.d (.sc (.int .u64 0))),(.own [] .full)] [],none,0,0⟩,
 ⟨(some 40),.mov (.t 19),none,0,0⟩,
 ⟨none,.store 2 (.t 16) (.t 39),none,0,0⟩,
 ⟨(some 17),.mov (.c (.d (.sc (.int .u64 0)))),none,0,0⟩,
 ⟨(some 18),.mov (.t 40),none,0,0⟩] false)
 .ret)
 .skip)))
 (.seq
 (.seq
 (.region [⟨(some 41),.load 3 true (.t 9),none,0,0⟩,
 ⟨(some 42),.callF 24 [(.t 41)],none,0,0⟩,
 ⟨(some 20),.mov (.t 42),none,0,0⟩] false)
 (.seq
 (.region [⟨(some 43),.mov (.t 20),none,0,0⟩,
 ⟨(some 44),.bin .neq (.t 43) (.c (.d (.sc (.int .i64 0)))),none,0,0⟩] false)
 (.cond (.t 44)
 (.seq
 (.region [⟨(some 45),.build [(.d (.sc (.int .u64 0))),(.own [] .full)] [],none,0,0⟩,
 ⟨(some 46),.mov (.t 20),none,0,0⟩,
 ⟨none,.store 2 (.t 16) (.t 45),none,0,0⟩,
 ⟨(some 17),.mov (.c (.d (.sc (.int .u64 0)))),none,0,0⟩,
 ⟨(some 18),.mov (.t 46),none,0,0⟩] false)
 .ret)
 .skip)))
 (.seq
 (.seq
 (.region [⟨(some 47),.mov (.t 2),none,0,0⟩,
 ⟨(some 48),.bin .lss (.t 47) (.c (.d (.sc (.int .i64 0)))),none,0,0⟩,
 ⟨(some 49),.mov (.t 48),none,0,0⟩,
 ⟨(some 50),.mov (.t 2),(some (49,false)),0,0⟩,
 ⟨(some 51),.fieldAddr 2 (.t 9),(some (49,false)),0,0⟩,
 ⟨(some 52),.load 1 false (.t 51),(some (49,false)),0,0⟩,
 ⟨(some 53),.len (.t 52),(some (49,false)),0,0⟩,
 ⟨(some 54),.bin .geq (.t 50) (.t 53),(some (49,false)),0,0⟩,
 ⟨(some 55),.pick (.t 49) (.c (.d (.sc (.bool true)))) (.t 54),none,0,0⟩,
 ⟨(some 56),.mov (.t 55),none,0,0⟩,
 ⟨(some 57),.mov (.t 4),(some (56,false)),0,0⟩,
 ⟨(some 58),.mov (.t 5),(some (56,false)),0,0⟩,
 ⟨(some 59),.callF 36 [(.t 57),(.t 58)],(some (56,false)),0,0⟩,
 ⟨(some 60),.un .not (.t 59),(some (56,false)),0,0⟩,
 ⟨(some 61),.pick (.t 56) (.c (.d (.sc (.bool true)))) (.t 60),none,0,0⟩,
 ⟨(some 62),.mov (.t 61),none,0,0⟩,
 ⟨(some 63),.mov (.t 7),(some (62,false)),0,0⟩,
 ⟨(some 64),.bin .lss (.t 63) (.c (.d (.sc (.int .i64 0)))),(some (62,false)),0,0⟩,
 ⟨(some 65),.pick (.t 62) (.c (.d (.sc (.bool true)))) (.t 64),none,0,0⟩,
 ⟨(some 66),.mov (.t 65),none,0,0⟩,
 ⟨(some 67),.mov (.t 7),(some (66,false)),0,0⟩,
 ⟨(some 68),.bin .gtr (.t 67) (.c (.d (.sc (.int .i64 4096)))),(some (66,false)),0,0⟩,
 ⟨(some 69),.pick (.t 66) (.c (.d (.sc (.bool true)))) (.t 68),none,0,0⟩] false)
 (.cond (.t 69)
 (.seq
 (.region [⟨(some 70),.build [(.d (.sc (.int .u64 0))),(.own [] .full)] [],none,0,0⟩,
 ⟨none,.store 2 (.t 16) (.t 70),none,0,0⟩,
 ⟨(some 17),.mov (.c (.d (.sc (.int .u64 0)))),none,0,0⟩,
 ⟨(some 18),.mov (.c (.d (.sc (.int .i64 2)))),none,0,0⟩] false)
 .ret)
 .skip))
 (.seq
 (.region [⟨(some 72),.load 3 true (.t 9),none,0,0⟩,
 ⟨(some 73),.mov (.t 2),none,0,0⟩,
 ⟨(some 74),.call 25 [(.t 72),(.t 73)],none,0,0⟩,
 ⟨(some 71),.mov (.t 74),none,0,0⟩,
 ⟨(some 75),.extract (.t 71) 0,none,0,0⟩,
 ⟨(some 76),.extract (.t 71) 1,none,0,0⟩,
 ⟨(some 21),.mov (.t 75),none,0,0⟩,
 ⟨(some 22),.mov (.t 76),none,0,0⟩] false)
 (.seq
 (.region [⟨(some 77),.mov (.t 22),none,0,0⟩,
 ⟨(some 78),.bin .add (.c (.d (.sc (.int .i64 24)))) (.t 77),none,0,0⟩,
 ⟨(some 79),.makeSlice 1 1 [(.sc (.int .u8 0))] (.t 78) (.t 78),none,0,1⟩,
 ⟨(some 23),.mov (.t 79),none,0,0⟩] false)
 (.seq
 (.seq
 (.region [⟨(some 80),.mov (.t 3),none,0,0⟩,
 ⟨(some 81),.mov (.t 4),none,0,0⟩,
 ⟨(some 82),.mov (.t 5),none,0,0⟩,
 ⟨(some 83),.build [(.d (.sc (.int .u64 0))),(.d (.sc (.int .u64 0))),(.d (.sc (.int .u64 0)))] [(0,1,(.t 80)),(1,1,(.t 81)),(2,1,(.t 82))],none,0,0⟩,
 ⟨(some 84),.mov (.c (.d (.sc (.int .i64 0)))),none,0,0⟩] false)
 (.block 0
 (.loop
 (.seq
 (.region [⟨(some 85),.bin .lss (.t 84) (.c (.d (.sc (.int .i64 3)))),none,0,0⟩] false)
 (.seq
 (.cond (.t 85)
 .skip
 (.exit 0))
 (.seq
 (.block 1
 (.seq
 (.region [⟨(some 86),.mov (.t 84),none,0,0⟩,
 ⟨(some 87),.indexA 3 1 false (.t 83) (.t 84),none,0,0⟩,
 ⟨(some 24),.mov (.t 86),none,0,0⟩,
 ⟨(some 25),.mov (.t 87),none,0,0⟩] false)
 (.seq
 (.region [⟨(some 88),.mov (.c (.d (.sc (.int .i64 0)))),none,0,0⟩] false)
 (.block 2
 (.loop
 (.seq
 (.region [⟨(some 89),.bin .lss (.t 88) (.c (.d (.sc (.int .i64 8)))),none,0,0⟩] false)
 (.seq
 (.cond (.t 89)
 .skip
 (.exit 2))
 (.seq
 (.block 3
 (.seq
 (.region [⟨(some 90),.mov (.t 88),none,0,0⟩,
 ⟨(some 26),.mov (.t 90),none,0,0⟩] false)
 (.region [⟨(some 91),.mov (.t 23),none,0,0⟩,
 ⟨(some 92),.mov (.t 24),none,0,0⟩,
 ⟨(some 93),.bin .mul (.c (.d (.sc (.int .i64 8)))) (.t 92),none,0,0⟩,
 ⟨(some 94),.mov (.t 26),none,0,0⟩,
 ⟨(some 95),.bin .add (.t 93) (.t 94),none,0,0⟩,
 ⟨(some 96),.mov (.t 25),none,0,0⟩,
 ⟨(some 97),.mov (.t 26),none,0,0⟩,
 ⟨(some 98),.bin .mul (.c (.d (.sc (.int .i64 8)))) (.t 97),none,0,0⟩,
 ⟨(some 99),.bin .shr (.t 96) (.t 98),none,0,0⟩,
 ⟨(some 100),.conv .u8 (.t 99),none,0,0⟩,
 ⟨(some 101),.indexAddr 1 (.t 91) (.t 95),none,0,0⟩,
 ⟨none,.store 1 (.t 101) (.t 100),none,0,0⟩] false)))
 (.region [⟨(some 102),.bin .add (.t 88) (.c (.d (.sc (.int .i64 1)))),none,0,0⟩,
 ⟨(some 88),.mov (.t 102),none,0,0⟩] false)))))))))
 (.region [⟨(some 103),.bin .add (.t 84) (.c (.d (.sc (.int .i64 1)))),none,0,0⟩,
 ⟨(some 84),.mov (.t 103),none,0,0⟩] false)))))))
 (.seq
 (.seq
 (.region [⟨(some 104),.fieldAddr 2 (.t 9),none,0,0⟩,
 ⟨(some 105),.load 1 false (.t 104),none,1,0⟩,
 ⟨(some 106),.mov (.t 2),none,0,0⟩,
 ⟨(some 107),.indexAddr 7 (.t 105) (.t 106),none,7,0⟩,
 ⟨(some 108),.fieldAddr 3 (.t 107),none,15,0⟩,
 ⟨(some 109),.load 1 false (.t 108),none,31,0⟩,
 ⟨(some 110),.fieldAddr 2 (.t 9),none,0,0⟩,
 ⟨(some 111),.load 1 false (.t 110),none,64,0⟩,
 ⟨(some 112),.mov (.t 2),none,0,0⟩,
 ⟨(some 113),.indexAddr 7 (.t 111) (.t 112),none,448,0⟩,
 ⟨(some 114),.fieldAddr 1 (.t 113),none,960,0⟩,
 ⟨(some 115),.load 1 false (.t 114),none,1984,0⟩,
 ⟨(some 116),.slice 2 (.t 109) none (some (.t 115)) none,none,4095,0⟩,
 ⟨(some 117),.len (.t 116),none,8191,0⟩,
 ⟨(some 118),.mov (.c (.d (.sc (.int .i64 0)))),none,0,0⟩] true)
 (.block 4
 (.loop
 (.seq
 (.region [⟨(some 119),.bin .lss (.t 118) (.t 117),none,0,0⟩] false)
 (.seq
 (.cond (.t 119)
 .skip
 (.exit 4))
 (.seq
 (.block 5
 (.seq
 (.region [⟨(some 120),.mov (.t 118),none,0,0⟩,
 ⟨(some 121),.indexAddr 2 (.t 116) (.t 118),none,0,0⟩,
 ⟨(some 122),.load 2 true (.t 121),none,0,0⟩,
 ⟨(some 28),.alloc [(.d (.sc (.string ⟨#[]⟩))),(.d (.sc (.int .i64 0)))],none,0,0⟩,
 ⟨(some 27),.mov (.t 120),none,0,0⟩,
 ⟨none,.store 2 (.t 28) (.t 122),none,0,0⟩] false)
 (.seq
 (.region [⟨(some 124),.fieldAddr 0 (.t 9),none,0,0⟩,
 ⟨(some 125),.load 1 false (.t 124),none,0,0⟩,
 ⟨(some 126),.fieldAddr 1 (.t 28),none,0,0⟩,
 ⟨(some 127),.load 1 false (.t 126),none,0,0⟩,
 ⟨(some 128),.callF 13 [(.t 125),(.t 127)],none,0,0⟩,
 ⟨(some 123),.mov (.t 128),none,0,0⟩,
 ⟨(some 129),.extract (.t 123) 0,none,0,0⟩,
 ⟨(some 130),.extract (.t 123) 1,none,0,0⟩,
 ⟨(some 131),.extract (.t 123) 2,none,0,0⟩,
 ⟨(some 29),.mov (.t 129),none,0,0⟩,
 ⟨(some 30),.mov (.t 130),none,0,0⟩,
 ⟨(some 31),.mov (.t 131),none,0,0⟩] false)
 (.seq
 (.region [⟨(some 133),.mov (.t 29),none,0,0⟩,
 ⟨(some 134),.callF 37 [(.t 133)],none,0,0⟩,
 ⟨(some 132),.mov (.t 134),none,0,0⟩,
 ⟨(some 135),.extract (.t 132) 0,none,0,0⟩,
 ⟨(some 136),.extract (.t 132) 1,none,0,0⟩,
 ⟨(some 32),.mov (.t 135),none,0,0⟩,
 ⟨(some 33),.mov (.t 136),none,0,0⟩] false)
 (.seq
 (.seq
 (.region [⟨(some 137),.mov (.t 6),none,0,0⟩,
 ⟨(some 138),.len (.t 137),none,0,0⟩,
 ⟨(some 139),.mov (.t 32),none,0,0⟩,
 ⟨(some 140),.bin .lss (.t 138) (.t 139),none,0,0⟩] false)
 (.cond (.t 140)
 (.seq
 (.region [⟨(some 141),.build [(.d (.sc (.int .u64 0))),(.own [] .full)] [],none,0,0⟩,
 ⟨none,.store 2 (.t 16) (.t 141),none,0,0⟩,
 ⟨(some 17),.mov (.c (.d (.sc (.int .u64 0)))),none,0,0⟩,
 ⟨(some 18),.mov (.c (.d (.sc (.int .i64 2)))),none,0,0⟩] false)
 .ret)
 .skip))
 (.seq
 (.region [⟨(some 142),.mov (.t 23),none,0,0⟩,
 ⟨(some 143),.mov (.t 21),none,0,0⟩,
 ⟨(some 144),.mov (.t 27),none,0,0⟩,
 ⟨(some 145),.indexAddr 1 (.t 143) (.t 144),none,6,0⟩,
 ⟨(some 146),.load 1 false (.t 145),none,14,0⟩,
 ⟨(some 147),.bin .add (.c (.d (.sc (.int .i64 24)))) (.t 146),none,30,0⟩,
 ⟨(some 148),.slice 1 (.t 142) (some (.t 147)) none none,none,63,0⟩,
 ⟨(some 149),.mov (.t 6),none,0,0⟩,
 ⟨(some 150),.mov (.t 29),none,0,0⟩,
 ⟨(some 151),.slice 1 (.t 149) none (some (.t 150)) none,none,384,0⟩,
 ⟨(some 152),.copy 1 (.t 148) (.t 151),none,1023,0⟩] true)
 (.region [⟨(some 153),.mov (.t 6),none,0,0⟩,
 ⟨(some 154),.mov (.t 32),none,0,0⟩,
 ⟨(some 155),.slice 1 (.t 153) (some (.t 154)) none none,none,0,3⟩,
 ⟨(some 6),.mov (.t 155),none,0,0⟩] false)))))))
 (.region [⟨(some 156),.bin .add (.t 118) (.c (.d (.sc (.int .i64 1)))),none,0,0⟩,
 ⟨(some 118),.mov (.t 156),none,0,0⟩] false)))))))
 (.seq
 (.seq
 (.region [⟨(some 157),.mov (.t 6),none,0,0⟩,
 ⟨(some 158),.len (.t 157),none,0,0⟩,
 ⟨(some 159),.bin .gtr (.t 158) (.c (.d (.sc (.int .i64 0)))),none,0,0⟩] false)
 (.cond (.t 159)
 (.seq
 (.region [⟨(some 160),.build [(.d (.sc (.int .u64 0))),(.own [] .full)] [],none,0,0⟩,
 ⟨none,.store 2 (.t 16) (.t 160),none,0,0⟩,
 ⟨(some 17),.mov (.c (.d (.sc (.int .u64 0)))),none,0,0⟩,
 ⟨(some 18),.mov (.c (.d (.sc (.int .i64 2)))),none,0,0⟩] false)
 .ret)
 .skip))
 (.seq
 (.seq
 (.region [⟨(some 161),.fieldAddr 1 (.t 8),none,0,0⟩,
 ⟨(some 162),.load 1 false (.t 161),none,0,0⟩,
 ⟨(some 163),.len (.t 162),none,0,0⟩,
 ⟨(some 164),.mov (.t 23),none,0,0⟩,
 ⟨(some 165),.len (.t 164),none,0,0⟩,
 ⟨(some 166),.bin .add (.t 163) (.t 165),none,0,0⟩,
 ⟨(some 167),.mov (.t 7),none,0,0⟩,
 ⟨(some 168),.bin .gtr (.t 166) (.t 167),none,0,0⟩] false)
 (.cond (.t 168)
 (.seq
 (.region [⟨(some 169),.build [(.d (.sc (.int .u64 0))),(.own [] .full)] [],none,0,0⟩,
 ⟨none,.store 2 (.t 16) (.t 169),none,0,0⟩,
 ⟨(some 17),.mov (.c (.d (.sc (.int .u64 0)))),none,0,0⟩,
 ⟨(some 18),.mov (.c (.d (.sc (.int .i64 18)))),none,0,0⟩] false)
 .ret)
 .skip))
 (.seq
 (.region [⟨(some 170),.fieldAddr 0 (.t 8),none,0,0⟩,
 ⟨(some 171),.load 1 false (.t 170),none,0,0⟩,
 ⟨(some 172),.fieldAddr 1 (.t 8),none,0,0⟩,
 ⟨(some 173),.load 1 false (.t 172),none,0,0⟩,
 ⟨(some 174),.len (.t 173),none,0,0⟩,
 ⟨(some 175),.conv .u64 (.t 174),none,0,0⟩,
 ⟨(some 176),.bin .add (.t 171) (.t 175),none,0,0⟩,
 ⟨(some 34),.mov (.t 176),none,0,0⟩] false)
 (.seq
 (.region [⟨(some 177),.fieldAddr 0 (.t 8),none,0,0⟩,
 ⟨(some 178),.load 1 false (.t 177),none,1,0⟩,
 ⟨(some 179),.fieldAddr 1 (.t 8),none,0,0⟩,
 ⟨(some 180),.load 1 false (.t 179),none,4,0⟩,
 ⟨(some 181),.mov (.t 23),none,0,0⟩,
 ⟨(some 182),.buildSlice 1 2 [(.sl [])] [(0,(.t 180)),(1,(.t 181))],none,28,0⟩,
 ⟨(some 183),.call 38 [(.t 182)],none,60,0⟩,
 ⟨(some 184),.build [(.d (.sc (.int .u64 0))),(.own [] .full)] [(0,1,(.t 178)),(1,1,(.t 183))],none,127,0⟩,
 ⟨(some 185),.mov (.t 34),none,0,0⟩,
 ⟨none,.store 2 (.t 16) (.t 184),none,255,0⟩,
 ⟨(some 17),.mov (.t 185),none,1023,0⟩,
 ⟨(some 18),.mov (.c (.d (.sc (.int .i64 0)))),none,2047,0⟩] true)
 .ret)))))))))))),false⟩
def t18:AFn:=⟨2,56,[.t 4,.t 5,.t 6,.t 7],
 (.seq
 (.region [⟨(some 2),.box (.t 0),none,0,0⟩,
 ⟨(some 4),.mov (.c (.d (.sc (.int .u64 0)))),none,0,0⟩,
 ⟨(some 5),.mov (.c (.d (.sc (.int .u64 0)))),none,0,0⟩,
 ⟨(some 6),.mov (.c (.d (.sc (.int .u64 0)))),none,0,0⟩,
 ⟨(some 7),.mov (.c (.d (.sc (.int .i64 0)))),none,0,0⟩] false)
 (.seq
 (.seq
 (.region [⟨(some 11),.load 2 true (.t 2),none,0,0⟩,
 ⟨(some 12),.callF 35 [(.t 11)],none,0,0⟩,
 ⟨(some 8),.mov (.t 12),none,0,0⟩] false)
 (.seq
 (.region [⟨(some 13),.mov (.t 8),none,0,0⟩,
 ⟨(some 14),.bin .neq (.t 13) (.c (.d (.sc (.int .i64 0)))),none,0,0⟩] false)
 (.cond (.t 14)
 (.seq
 (.region [⟨(some 15),.mov (.t 8),none,0,0⟩,
 ⟨(some 4),.mov (.c (.d (.sc (.int .u64 0)))),none,0,0⟩,
 ⟨(some 5),.mov (.c (.d (.sc (.int .u64 0)))),none,0,0⟩,
 ⟨(some 6),.mov (.c (.d (.sc (.int .u64 0)))),none,0,0⟩,
 ⟨(some 7),.mov (.t 15),none,0,0⟩] false)
 .ret)
 .skip)))
 (.seq
 (.seq
 (.region [⟨(some 17),.load 2 true (.t 2),none,0,0⟩,
 ⟨(some 18),.mov (.t 1),none,0,0⟩,
 ⟨(some 19),.callF 39 [(.t 17),(.t 18),(.c (.d (.sc (.int .i64 24))))],none,0,0⟩,
 ⟨(some 16),.mov (.t 19),none,0,0⟩,
 ⟨(some 20),.extract (.t 16) 0,none,0,0⟩,
 ⟨(some 21),.extract (.t 16) 1,none,0,0⟩,
 ⟨(some 9),.mov (.t 20),none,0,0⟩,
 ⟨(some 10),.mov (.t 21),none,0,0⟩] false)
 (.seq
 (.region [⟨(some 22),.mov (.t 9),none,0,0⟩,
 ⟨(some 23),.un .not (.t 22),none,0,0⟩,
 ⟨(some 24),.mov (.t 23),none,0,0⟩,
 ⟨(some 25),.mov (.t 1),(some (24,false)),0,0⟩,
 ⟨(some 26),.bin .rem (.t 25) (.c (.d (.sc (.int .u64 8)))),(some (24,false)),0,0⟩,
 ⟨(some 27),.bin .neq (.t 26) (.c (.d (.sc (.int .u64 0)))),(some (24,false)),0,0⟩,
 ⟨(some 28),.pick (.t 24) (.c (.d (.sc (.bool true)))) (.t 27),none,0,0⟩] false)
 (.cond (.t 28)
 (.seq
 (.region [⟨(some 4),.mov (.c (.d (.sc (.int .u64 0)))),none,0,0⟩,
 ⟨(some 5),.mov (.c (.d (.sc (.int .u64 0)))),none,0,0⟩,
 ⟨(some 6),.mov (.c (.d (.sc (.int .u64 0)))),none,0,0⟩,
 ⟨(some 7),.mov (.c (.d (.sc (.int .i64 16)))),none,0,0⟩] false)
 .ret)
 .skip)))
 (.seq
 (.region [⟨(some 30),.load 2 true (.t 2),none,0,0⟩,
 ⟨(some 31),.mov (.t 1),none,0,0⟩,
 ⟨(some 32),.callF 40 [(.t 30),(.t 31),(.c (.d (.sc (.int .i64 8))))],none,0,0⟩,
 ⟨(some 29),.mov (.t 32),none,0,0⟩,
 ⟨(some 33),.extract (.t 29) 0,none,0,0⟩,
 ⟨(some 34),.extract (.t 29) 1,none,0,0⟩,
 ⟨(some 4),.mov (.t 33),none,0,0⟩] false)
 (.seq
 (.region [⟨(some 36),.load 2 true (.t 2),none,0,0⟩,
 ⟨(some 37),.mov (.t 1),none,0,0⟩,
 ⟨(some 38),.bin .add (.t 37) (.c (.d (.sc (.int .u64 8)))),none,0,0⟩,
 ⟨(some 39),.callF 40 [(.t 36),(.t 38),(.c (.d (.sc (.int .i64 8))))],none,0,0⟩,
 ⟨(some 35),.mov (.t 39),none,0,0⟩,
 ⟨(some 40),.extract (.t 35) 0,none,0,0⟩,
 ⟨(some 41),.extract (.t 35) 1,none,0,0⟩,
 ⟨(some 5),.mov (.t 40),none,0,0⟩] false)
 (.seq
 (.region [⟨(some 43),.load 2 true (.t 2),none,0,0⟩,
 ⟨(some 44),.mov (.t 1),none,0,0⟩,
 ⟨(some 45),.bin .add (.t 44) (.c (.d (.sc (.int .u64 16)))),none,0,0⟩,
 ⟨(some 46),.callF 40 [(.t 43),(.t 45),(.c (.d (.sc (.int .i64 8))))],none,0,0⟩,
 ⟨(some 42),.mov (.t 46),none,0,0⟩,
 ⟨(some 47),.extract (.t 42) 0,none,0,0⟩,
 ⟨(some 48),.extract (.t 42) 1,none,0,0⟩,
 ⟨(some 6),.mov (.t 47),none,0,0⟩] false)
 (.seq
 (.seq
 (.region [⟨(some 49),.mov (.t 5),none,0,0⟩,
 ⟨(some 50),.mov (.t 6),none,0,0⟩,
 ⟨(some 51),.callF 36 [(.t 49),(.t 50)],none,0,0⟩,
 ⟨(some 52),.un .not (.t 51),none,0,0⟩] false)
 (.cond (.t 52)
 (.seq
 (.region [⟨(some 4),.mov (.c (.d (.sc (.int .u64 0)))),none,0,0⟩,
 ⟨(some 5),.mov (.c (.d (.sc (.int .u64 0)))),none,0,0⟩,
 ⟨(some 6),.mov (.c (.d (.sc (.int .u64 0)))),none,0,0⟩,
 ⟨(some 7),.mov (.c (.d (.sc (.int .i64 12)))),none,0,0⟩] false)
 .ret)
 .skip))
 (.seq
 (.region [⟨(some 53),.mov (.t 4),none,0,0⟩,
 ⟨(some 54),.mov (.t 5),none,0,0⟩,
 ⟨(some 55),.mov (.t 6),none,0,0⟩,
 ⟨(some 4),.mov (.t 53),none,0,0⟩,
 ⟨(some 5),.mov (.t 54),none,0,0⟩,
 ⟨(some 6),.mov (.t 55),none,0,0⟩,
 ⟨(some 7),.mov (.c (.d (.sc (.int .i64 0)))),none,0,0⟩] false)
 .ret)))))))),false⟩
def t19:AFn:=⟨2,37,[.cell 4 2 true,.t 5,.t 6],
 (.seq
 (.region [⟨(some 2),.box (.t 0),none,0,0⟩,
 ⟨(some 4),.alloc [(.d (.sc (.int .u64 0))),(.own [] .full)],none,0,0⟩,
 ⟨(some 5),.mov (.c (.d (.sc (.int .u64 0)))),none,0,0⟩,
 ⟨(some 6),.mov (.c (.d (.sc (.int .i64 0)))),none,0,0⟩] false)
 (.seq
 (.region [⟨(some 13),.load 2 true (.t 2),none,0,0⟩,
 ⟨(some 14),.mov (.t 1),none,0,0⟩,
 ⟨(some 15),.callF 18 [(.t 13),(.t 14)],none,0,0⟩,
 ⟨(some 12),.mov (.t 15),none,0,0⟩,
 ⟨(some 16),.extract (.t 12) 0,none,0,0⟩,
 ⟨(some 17),.extract (.t 12) 1,none,0,0⟩,
 ⟨(some 18),.extract (.t 12) 2,none,0,0⟩,
 ⟨(some 19),.extract (.t 12) 3,none,0,0⟩,
 ⟨(some 7),.mov (.t 16),none,0,0⟩,
 ⟨(some 8),.mov (.t 17),none,0,0⟩,
 ⟨(some 9),.mov (.t 18),none,0,0⟩,
 ⟨(some 10),.mov (.t 19),none,0,0⟩] false)
 (.seq
 (.seq
 (.region [⟨(some 20),.mov (.t 10),none,0,0⟩,
 ⟨(some 21),.bin .neq (.t 20) (.c (.d (.sc (.int .i64 0)))),none,0,0⟩] false)
 (.cond (.t 21)
 (.seq
 (.region [⟨(some 22),.build [(.d (.sc (.int .u64 0))),(.own [] .full)] [],none,0,0⟩,
 ⟨(some 23),.mov (.t 10),none,0,0⟩,
 ⟨none,.store 2 (.t 4) (.t 22),none,0,0⟩,
 ⟨(some 5),.mov (.c (.d (.sc (.int .u64 0)))),none,0,0⟩,
 ⟨(some 6),.mov (.t 23),none,0,0⟩] false)
 .ret)
 .skip))
 (.seq
 (.region [⟨(some 25),.load 2 true (.t 2),none,0,0⟩,
 ⟨(some 26),.mov (.t 1),none,0,0⟩,
 ⟨(some 27),.fieldAddr 0 (.t 2),none,0,0⟩,
 ⟨(some 28),.load 1 false (.t 27),none,0,0⟩,
 ⟨(some 29),.bin .sub (.t 26) (.t 28),none,0,0⟩,
 ⟨(some 30),.conv .i64 (.t 29),none,0,0⟩,
 ⟨(some 31),.call 41 [(.t 25),(.t 30)],none,0,0⟩,
 ⟨(some 24),.mov (.t 31),none,0,0⟩,
 ⟨(some 32),.extract (.t 24) 0,none,0,0⟩,
 ⟨(some 33),.extract (.t 24) 1,none,0,0⟩,
 ⟨(some 11),.alloc [(.d (.sc (.int .u64 0))),(.own [] .full)],none,0,0⟩,
 ⟨none,.store 2 (.t 11) (.t 32),none,0,0⟩,
 ⟨(some 10),.mov (.t 33),none,0,0⟩] false)
 (.seq
 (.region [⟨(some 34),.load 2 true (.t 11),none,0,0⟩,
 ⟨(some 35),.mov (.t 7),none,0,0⟩,
 ⟨(some 36),.mov (.t 10),none,0,0⟩,
 ⟨none,.store 2 (.t 4) (.t 34),none,0,0⟩,
 ⟨(some 5),.mov (.t 35),none,0,0⟩,
 ⟨(some 6),.mov (.t 36),none,0,0⟩] false)
 .ret))))),false⟩
def t20:AFn:=⟨3,114,[.t 6,.t 7],
 (.seq
 (.region [⟨(some 3),.box (.t 0),none,0,0⟩,
 ⟨(some 4),.box (.t 1),none,0,0⟩,
 ⟨(some 6),.mov (.c (.own [] .full)),none,0,0⟩,
 ⟨(some 7),.mov (.c (.d (.sc (.int .i64 0)))),none,0,0⟩] false)
 (.seq
 (.seq
 (.region [⟨(some 21),.load 2 true (.t 3),none,0,0⟩,
 ⟨(some 22),.callF 35 [(.t 21)],none,0,0⟩,
 ⟨(some 8),.mov (.t 22),none,0,0⟩] false)
 (.seq
 (.region [⟨(some 23),.mov (.t 8),none,0,0⟩,
 ⟨(some 24),.bin .neq (.t 23) (.c (.d (.sc (.int .i64 0)))),none,0,0⟩] false)
 (.cond (.t 24)
 (.seq
 (.region [⟨(some 25),.mov (.t 8),none,0,0⟩,
 ⟨(some 6),.mov (.c (.own [] .full)),none,0,0⟩,
 ⟨(some 7),.mov (.t 25),none,0,0⟩] false)
 .ret)
 .skip)))
 (.seq
 (.seq
 (.region [⟨(some 26),.load 3 true (.t 4),none,0,0⟩,
 ⟨(some 27),.callF 24 [(.t 26)],none,0,0⟩,
 ⟨(some 9),.mov (.t 27),none,0,0⟩] false)
 (.seq
 (.region [⟨(some 28),.mov (.t 9),none,0,0⟩,
 ⟨(some 29),.bin .neq (.t 28) (.c (.d (.sc (.int .i64 0)))),none,0,0⟩] false)
 (.cond (.t 29)
 (.seq
 (.region [⟨(some 30),.mov (.t 9),none,0,0⟩,
 ⟨(some 6),.mov (.c (.own [] .full)),none,0,0⟩,
 ⟨(some 7),.mov (.t 30),none,0,0⟩] false)
 .ret)
 .skip)))
 (.seq
 (.region [⟨(some 31),.fieldAddr 1 (.t 3),none,0,0⟩,
 ⟨(some 32),.load 1 false (.t 31),none,0,0⟩,
 ⟨(some 33),.len (.t 32),none,0,0⟩,
 ⟨(some 34),.conv .u64 (.t 33),none,0,0⟩,
 ⟨(some 10),.mov (.t 34),none,0,0⟩,
 ⟨(some 11),.mov (.c (.d (.sc (.int .i64 0)))),none,0,0⟩] false)
 (.seq
 (.region [⟨(some 12),.mov (.c (.own [] .full)),none,0,0⟩] false)
 (.block 4294967297
 (.loop
 (.block 4294967296
 (.seq
 (.seq
 (.region [⟨(some 36),.load 3 true (.t 4),none,0,0⟩,
 ⟨(some 37),.mov (.t 2),none,0,0⟩,
 ⟨(some 38),.callF 27 [(.t 36),(.t 37)],none,0,0⟩,
 ⟨(some 35),.mov (.t 38),none,0,0⟩,
 ⟨(some 39),.extract (.t 35) 0,none,0,0⟩,
 ⟨(some 40),.extract (.t 35) 1,none,0,0⟩,
 ⟨(some 41),.extract (.t 35) 2,none,0,0⟩,
 ⟨(some 13),.mov (.t 39),none,0,0⟩,
 ⟨(some 14),.mov (.t 40),none,0,0⟩,
 ⟨(some 15),.mov (.t 41),none,0,0⟩] false)
 (.seq
 (.seq
 (.region [⟨(some 42),.mov (.t 15),none,0,0⟩,
 ⟨(some 43),.bin .neq (.t 42) (.c (.d (.sc (.int .i64 0)))),none,0,0⟩] false)
 (.cond (.t 43)
 (.seq
 (.region [⟨(some 44),.mov (.t 15),none,0,0⟩,
 ⟨(some 6),.mov (.c (.own [] .full)),none,0,0⟩,
 ⟨(some 7),.mov (.t 44),none,0,0⟩] false)
 .ret)
 .skip))
 (.seq
 (.region [⟨(some 46),.load 3 true (.t 4),none,0,0⟩,
 ⟨(some 47),.mov (.t 2),none,0,0⟩,
 ⟨(some 48),.callF 9 [(.t 46),(.t 47)],none,0,0⟩,
 ⟨(some 45),.mov (.t 48),none,0,0⟩,
 ⟨(some 49),.extract (.t 45) 0,none,0,0⟩,
 ⟨(some 50),.extract (.t 45) 1,none,0,0⟩,
 ⟨(some 16),.mov (.t 49),none,0,0⟩,
 ⟨(some 15),.mov (.t 50),none,0,0⟩] false)
 (.seq
 (.seq
 (.region [⟨(some 51),.mov (.t 15),none,0,0⟩,
 ⟨(some 52),.bin .neq (.t 51) (.c (.d (.sc (.int .i64 0)))),none,0,0⟩,
 ⟨(some 53),.mov (.t 52),none,0,0⟩,
 ⟨(some 54),.mov (.t 16),(some (53,false)),0,0⟩,
 ⟨(some 55),.conv .u64 (.t 54),(some (53,false)),0,0⟩,
 ⟨(some 56),.mov (.t 10),(some (53,false)),0,0⟩,
 ⟨(some 57),.bin .gtr (.t 55) (.t 56),(some (53,false)),0,0⟩,
 ⟨(some 58),.pick (.t 53) (.c (.d (.sc (.bool true)))) (.t 57),none,0,0⟩] false)
 (.cond (.t 58)
 (.seq
 (.region [⟨(some 6),.mov (.c (.own [] .full)),none,0,0⟩,
 ⟨(some 7),.mov (.c (.d (.sc (.int .i64 16)))),none,0,0⟩] false)
 .ret)
 .skip))
 (.seq
 (.region [⟨(some 59),.mov (.t 10),none,0,0⟩,
 ⟨(some 60),.mov (.t 16),none,0,0⟩,
 ⟨(some 61),.conv .u64 (.t 60),none,0,0⟩,
 ⟨(some 62),.bin .sub (.t 59) (.t 61),none,0,0⟩,
 ⟨(some 10),.mov (.t 62),none,0,0⟩] false)
 (.seq
 (.region [⟨(some 63),.fieldAddr 0 (.t 3),none,0,0⟩,
 ⟨(some 64),.load 1 false (.t 63),none,0,0⟩,
 ⟨(some 65),.mov (.t 10),none,0,0⟩,
 ⟨(some 66),.bin .add (.t 64) (.t 65),none,0,0⟩,
 ⟨(some 17),.mov (.t 66),none,0,0⟩] false)
 (.seq
 (.region [⟨(some 68),.load 2 true (.t 3),none,0,0⟩,
 ⟨(some 69),.mov (.t 17),none,0,0⟩,
 ⟨(some 70),.callF 18 [(.t 68),(.t 69)],none,0,0⟩,
 ⟨(some 67),.mov (.t 70),none,0,0⟩,
 ⟨(some 71),.extract (.t 67) 0,none,0,0⟩,
 ⟨(some 72),.extract (.t 67) 1,none,0,0⟩,
 ⟨(some 73),.extract (.t 67) 2,none,0,0⟩,
 ⟨(some 74),.extract (.t 67) 3,none,0,0⟩,
 ⟨(some 18),.mov (.t 71),none,0,0⟩,
 ⟨(some 19),.mov (.t 72),none,0,0⟩,
 ⟨(some 20),.mov (.t 73),none,0,0⟩,
 ⟨(some 15),.mov (.t 74),none,0,0⟩] false)
 (.seq
 (.seq
 (.region [⟨(some 75),.mov (.t 15),none,0,0⟩,
 ⟨(some 76),.bin .neq (.t 75) (.c (.d (.sc (.int .i64 0)))),none,0,0⟩,
 ⟨(some 77),.mov (.t 76),none,0,0⟩,
 ⟨(some 78),.mov (.t 18),(some (77,false)),0,0⟩,
 ⟨(some 79),.bin .eql (.t 78) (.c (.d (.sc (.int .u64 0)))),(some (77,false)),0,0⟩,
 ⟨(some 80),.mov (.t 10),(some (77,false)),0,0⟩,
 ⟨(some 81),.bin .eql (.t 80) (.c (.d (.sc (.int .u64 0)))),(some (77,false)),0,0⟩,
 ⟨(some 82),.eqb true (.t 79) (.t 81),(some (77,false)),0,0⟩,
 ⟨(some 83),.pick (.t 77) (.c (.d (.sc (.bool true)))) (.t 82),none,0,0⟩,
 ⟨(some 84),.mov (.t 83),none,0,0⟩,
 ⟨(some 85),.mov (.t 19),(some (84,false)),0,0⟩,
 ⟨(some 86),.bin .eql (.t 85) (.c (.d (.sc (.int .u64 0)))),(some (84,false)),0,0⟩,
 ⟨(some 87),.mov (.t 86),(some (84,false)),0,0⟩,
 ⟨(some 88),.mov (.t 18),(some (87,true)),0,0⟩,
 ⟨(some 89),.bin .neq (.t 88) (.c (.d (.sc (.int .u64 0)))),(some (87,true)),0,0⟩,
 ⟨(some 90),.pick (.t 87) (.t 89) (.c (.d (.sc (.bool false)))),(some (84,false)),0,0⟩,
 ⟨(some 91),.mov (.t 90),(some (84,false)),0,0⟩,
 ⟨(some 92),.mov (.t 18),(some (91,true)),0,0⟩,
 ⟨(some 93),.bin .rem (.t 92) (.c (.d (.sc (.int .u64 256)))),(some (91,true)),0,0⟩,
 ⟨(some 94),.bin .eql (.t 93) (.c (.d (.sc (.int .u64 0)))),(some (91,true)),0,0⟩,
 ⟨(some 95),.pick (.t 91) (.t 94) (.c (.d (.sc (.bool false)))),(some (84,false)),0,0⟩,
 ⟨(some 96),.pick (.t 84) (.c (.d (.sc (.bool true)))) (.t 95),none,0,0⟩] false)
 (.cond (.t 96)
 (.seq
 (.region [⟨(some 6),.mov (.c (.own [] .full)),none,0,0⟩,
 ⟨(some 7),.mov (.c (.d (.sc (.int .i64 12)))),none,0,0⟩] false)
 .ret)
 .skip))
 (.seq
 (.region [⟨(some 97),.mov (.t 12),none,0,0⟩,
 ⟨(some 98),.mov (.t 17),none,0,0⟩,
 ⟨(some 99),.mov (.t 13),none,0,0⟩,
 ⟨(some 100),.mov (.t 14),none,0,0⟩,
 ⟨(some 101),.mov (.t 11),none,0,0⟩,
 ⟨(some 102),.bin .sub (.t 100) (.t 101),none,0,0⟩,
 ⟨(some 103),.mov (.t 19),none,0,0⟩,
 ⟨(some 104),.mov (.t 20),none,0,0⟩,
 ⟨(some 105),.build [(.d (.sc (.int .u64 0))),(.d (.sc (.int .i64 0))),(.d (.sc (.int .i64 0))),(.d (.sc (.int .u64 0))),(.d (.sc (.int .u64 0)))] [(0,1,(.t 98)),(1,1,(.t 99)),(2,1,(.t 102)),(3,1,(.t 103)),(4,1,(.t 104))],none,0,0⟩,
 ⟨(some 106),.buildSlice 5 1 [(.sc (.int .u64 0)),(.sc (.int .i64 0)),(.sc (.int .i64 0)),(.sc (.int .u64 0)),(.sc (.int .u64 0))] [(0,(.t 105))],none,0,0⟩,
 ⟨(some 107),.append 5 40 (.t 97) (.t 106),none,0,0⟩,
 ⟨(some 12),.mov (.t 107),none,0,0⟩] false)
 (.seq
 (.seq
 (.region [⟨(some 108),.mov (.t 18),none,0,0⟩,
 ⟨(some 109),.bin .neq (.t 108) (.c (.d (.sc (.int .u64 0)))),none,0,0⟩] false)
 (.cond (.t 109)
 (.seq
 (.region [⟨(some 11),.mov (.c (.d (.sc (.int .i64 0)))),none,0,0⟩] false)
 (.seq
 (.seq
 (.region [⟨(some 110),.mov (.t 19),none,0,0⟩,
 ⟨(some 111),.bin .eql (.t 110) (.c (.d (.sc (.int .u64 0)))),none,0,0⟩] false)
 (.cond (.t 111)
 (.region [⟨(some 11),.mov (.c (.d (.sc (.int .i64 1)))),none,0,0⟩] false)
 .skip))
 (.seq
 (.region [⟨(some 112),.mov (.t 18),none,0,0⟩,
 ⟨(some 2),.mov (.t 112),none,0,0⟩] false)
 (.exit 4294967296))))
 .skip))
 (.seq
 (.region [⟨(some 113),.mov (.t 12),none,0,0⟩,
 ⟨(some 6),.mov (.t 113),none,0,0⟩,
 ⟨(some 7),.mov (.c (.d (.sc (.int .i64 0)))),none,0,0⟩] false)
 .ret)))))))))))
 (.exit 4294967297)))))))))),false⟩
def t21:AFn:=⟨1,10,[.cell 2 2 true],
 (.seq
 (.region [⟨(some 1),.box (.t 0),none,0,0⟩,
 ⟨(some 2),.alloc [(.d (.sc (.int .u64 0))),(.own [] .full)],none,0,0⟩] false)
 (.seq
 (.region [⟨(some 3),.fieldAddr 0 (.t 1),none,0,0⟩,
 ⟨(some 4),.load 1 false (.t 3),none,1,0⟩,
 ⟨(some 5),.buildSlice 1 0 [(.sc (.int .u8 0))] [],none,0,1⟩,
 ⟨(some 6),.fieldAddr 1 (.t 1),none,0,0⟩,
 ⟨(some 7),.load 1 false (.t 6),none,8,0⟩,
 ⟨(some 8),.append 1 1 (.t 5) (.t 7),none,28,1⟩,
 ⟨(some 9),.build [(.d (.sc (.int .u64 0))),(.own [] .full)] [(0,1,(.t 4)),(1,1,(.t 8))],none,63,0⟩,
 ⟨none,.store 2 (.t 2) (.t 9),none,127,0⟩] true)
 .ret)),false⟩
def t22:AFn:=⟨0,100,[.t 0],
 (.seq
 (.region [⟨(some 0),.mov (.c (.d (.sc (.bool false)))),none,0,0⟩] false)
 (.seq
 (.region [⟨(some 19),.call 16 [],none,0,0⟩,
 ⟨(some 1),.alloc [(.own [] .full),(.own [] .full),(.own [] .full)],none,0,0⟩,
 ⟨none,.store 3 (.t 1) (.t 19),none,0,0⟩] false)
 (.seq
 (.region [⟨(some 20),.makeSlice 1 1 [(.sc (.int .u8 0))] (.c (.d (.sc (.int .i64 8)))) (.c (.d (.sc (.int .i64 8)))),none,0,0⟩,
 ⟨(some 2),.mov (.t 20),none,0,0⟩] false)
 (.seq
 (.seq
 (.region [⟨(some 3),.mov (.c (.d (.sc (.int .i64 0)))),none,0,0⟩] false)
 (.block 0
 (.loop
 (.seq
 (.seq
 (.region [⟨(some 21),.mov (.t 3),none,0,0⟩,
 ⟨(some 22),.bin .lss (.t 21) (.c (.d (.sc (.int .i64 4)))),none,0,0⟩] false)
 (.cond (.t 22)
 .skip
 (.exit 0)))
 (.seq
 (.block 1
 (.seq
 (.region [⟨(some 25),.buildSlice 1 4 [(.sc (.int .u64 0))] [(0,(.c (.d (.sc (.int .u64 257))))),(1,(.c (.d (.sc (.int .u64 0))))),(2,(.c (.d (.sc (.int .u64 256))))),(3,(.c (.d (.sc (.int .u64 999)))))],none,0,0⟩,
 ⟨(some 26),.mov (.t 3),none,0,0⟩,
 ⟨(some 27),.indexAddr 1 (.t 25) (.t 26),none,0,0⟩,
 ⟨(some 28),.load 1 false (.t 27),none,0,0⟩,
 ⟨(some 4),.mov (.t 28),none,0,0⟩] false)
 (.seq
 (.region [⟨(some 29),.buildSlice 1 4 [(.sc (.int .i64 0))] [(0,(.c (.d (.sc (.int .i64 0))))),(1,(.c (.d (.sc (.int .i64 12))))),(2,(.c (.d (.sc (.int .i64 12))))),(3,(.c (.d (.sc (.int .i64 6)))))],none,0,0⟩,
 ⟨(some 30),.mov (.t 3),none,0,0⟩,
 ⟨(some 31),.indexAddr 1 (.t 29) (.t 30),none,0,0⟩,
 ⟨(some 32),.load 1 false (.t 31),none,0,0⟩,
 ⟨(some 5),.mov (.t 32),none,0,0⟩] false)
 (.seq
 (.region [⟨(some 34),.build [(.d (.sc (.int .u64 0))),(.own [] .full)] [(0,1,(.c (.d (.sc (.int .u64 16777216)))))],none,0,0⟩,
 ⟨(some 35),.load 3 true (.t 1),none,0,0⟩,
 ⟨(some 36),.call 17 [(.t 34),(.t 35),(.c (.d (.sc (.int .i64 0)))),(.c (.d (.sc (.int .u64 0)))),(.c (.d (.sc (.int .u64 0)))),(.c (.d (.sc (.int .u64 0)))),(.c (.own [] .full)),(.c (.d (.sc (.int .i64 500))))],none,0,0⟩,
 ⟨(some 33),.mov (.t 36),none,0,0⟩,
 ⟨(some 37),.extract (.t 33) 0,none,0,0⟩,
 ⟨(some 38),.extract (.t 33) 1,none,0,0⟩,
 ⟨(some 39),.extract (.t 33) 2,none,0,0⟩,
 ⟨(some 6),.alloc [(.d (.sc (.int .u64 0))),(.own [] .full)],none,0,0⟩,
 ⟨none,.store 2 (.t 6) (.t 37),none,0,0⟩,
 ⟨(some 7),.mov (.t 38),none,0,0⟩,
 ⟨(some 8),.mov (.t 39),none,0,0⟩] false)
 (.seq
 (.region [⟨(some 41),.load 2 true (.t 6),none,0,0⟩,
 ⟨(some 42),.load 3 true (.t 1),none,0,0⟩,
 ⟨(some 43),.mov (.t 4),none,0,0⟩,
 ⟨(some 44),.mov (.t 2),none,0,0⟩,
 ⟨(some 45),.call 17 [(.t 41),(.t 42),(.c (.d (.sc (.int .i64 1)))),(.t 43),(.c (.d (.sc (.int .u64 0)))),(.c (.d (.sc (.int .u64 0)))),(.t 44),(.c (.d (.sc (.int .i64 500))))],none,0,0⟩,
 ⟨(some 40),.mov (.t 45),none,0,0⟩,
 ⟨(some 46),.extract (.t 40) 0,none,0,0⟩,
 ⟨(some 47),.extract (.t 40) 1,none,0,0⟩,
 ⟨(some 48),.extract (.t 40) 2,none,0,0⟩,
 ⟨(some 9),.alloc [(.d (.sc (.int .u64 0))),(.own [] .full)],none,0,0⟩,
 ⟨none,.store 2 (.t 9) (.t 46),none,0,0⟩,
 ⟨(some 10),.mov (.t 47),none,0,0⟩,
 ⟨(some 11),.mov (.t 48),none,0,0⟩] false)
 (.seq
 (.region [⟨(some 50),.load 2 true (.t 9),none,0,0⟩,
 ⟨(some 51),.load 3 true (.t 1),none,0,0⟩,
 ⟨(some 52),.call 20 [(.t 50),(.t 51),(.c (.d (.sc (.int .u64 513))))],none,0,0⟩,
 ⟨(some 49),.mov (.t 52),none,0,0⟩,
 ⟨(some 53),.extract (.t 49) 0,none,0,0⟩,
 ⟨(some 54),.extract (.t 49) 1,none,0,0⟩,
 ⟨(some 12),.mov (.t 53),none,0,0⟩,
 ⟨(some 13),.mov (.t 54),none,0,0⟩] false)
 (.seq
 (.seq
 (.region [⟨(some 55),.mov (.t 8),none,0,0⟩,
 ⟨(some 56),.bin .neq (.t 55) (.c (.d (.sc (.int .i64 0)))),none,0,0⟩,
 ⟨(some 57),.mov (.t 56),none,0,0⟩,
 ⟨(some 58),.mov (.t 11),(some (57,false)),0,0⟩,
 ⟨(some 59),.bin .neq (.t 58) (.c (.d (.sc (.int .i64 0)))),(some (57,false)),0,0⟩,
 ⟨(some 60),.pick (.t 57) (.c (.d (.sc (.bool true)))) (.t 59),none,0,0⟩,
 ⟨(some 61),.mov (.t 60),none,0,0⟩,
 ⟨(some 62),.mov (.t 10),(some (61,false)),0,0⟩,
 ⟨(some 63),.bin .neq (.t 62) (.c (.d (.sc (.int .u64 16777240)))),(some (61,false)),0,0⟩,
 ⟨(some 64),.pick (.t 61) (.c (.d (.sc (.bool true)))) (.t 63),none,0,0⟩,
 ⟨(some 65),.mov (.t 64),none,0,0⟩,
 ⟨(some 66),.mov (.t 13),(some (65,false)),0,0⟩,
 ⟨(some 67),.mov (.t 5),(some (65,false)),0,0⟩,
 ⟨(some 68),.bin .neq (.t 66) (.t 67),(some (65,false)),0,0⟩,
 ⟨(some 69),.pick (.t 65) (.c (.d (.sc (.bool true)))) (.t 68),none,0,0⟩] false)
 (.cond (.t 69)
 (.seq
 (.region [⟨(some 0),.mov (.c (.d (.sc (.bool false)))),none,0,0⟩] false)
 .ret)
 .skip))
 (.seq
 (.region [⟨(some 70),.mov (.t 3),none,0,0⟩,
 ⟨(some 71),.bin .eql (.t 70) (.c (.d (.sc (.int .i64 0)))),none,0,0⟩,
 ⟨(some 72),.mov (.t 71),none,0,0⟩,
 ⟨(some 73),.mov (.t 12),(some (72,true)),0,0⟩,
 ⟨(some 74),.mov (.t 10),(some (72,true)),0,0⟩,
 ⟨(some 75),.build [(.d (.sc (.int .u64 0))),(.d (.sc (.int .i64 0))),(.d (.sc (.int .i64 0))),(.d (.sc (.int .u64 0))),(.d (.sc (.int .u64 0)))] [(0,1,(.t 74)),(1,1,(.c (.d (.sc (.int .i64 1))))),(2,1,(.c (.d (.sc (.int .i64 1)))))],(some (72,true)),0,0⟩,
 ⟨(some 76),.build [(.d (.sc (.int .u64 0))),(.d (.sc (.int .i64 0))),(.d (.sc (.int .i64 0))),(.d (.sc (.int .u64 0))),(.d (.sc (.int .u64 0)))] [(0,1,(.c (.d (.sc (.int .u64 16777216)))))],(some (72,true)),0,0⟩,
 ⟨(some 77),.buildSlice 5 2 [(.sc (.int .u64 0)),(.sc (.int .i64 0)),(.sc (.int .i64 0)),(.sc (.int .u64 0)),(.sc (.int .u64 0))] [(0,(.t 75)),(1,(.t 76))],(some (72,true)),0,2⟩,
 ⟨(some 78),.callF 42 [(.t 73),(.t 77)],(some (72,true)),0,0⟩,
 ⟨(some 79),.un .not (.t 78),(some (72,true)),0,0⟩,
 ⟨(some 80),.pick (.t 72) (.t 79) (.c (.d (.sc (.bool false)))),none,0,0⟩] false)
 (.cond (.t 80)
 (.seq
 (.region [⟨(some 0),.mov (.c (.d (.sc (.bool false)))),none,0,0⟩] false)
 .ret)
 .skip)))))))))
 (.region [⟨(some 23),.mov (.t 3),none,0,0⟩,
 ⟨(some 24),.bin .add (.t 23) (.c (.d (.sc (.int .i64 1)))),none,0,0⟩,
 ⟨(some 3),.mov (.t 24),none,0,0⟩] false))))))
 (.seq
 (.region [⟨(some 82),.build [(.d (.sc (.int .u64 0))),(.own [] .full)] [(0,1,(.c (.d (.sc (.int .u64 16777216)))))],none,0,0⟩,
 ⟨(some 83),.load 3 true (.t 1),none,0,0⟩,
 ⟨(some 84),.call 17 [(.t 82),(.t 83),(.c (.d (.sc (.int .i64 0)))),(.c (.d (.sc (.int .u64 257)))),(.c (.d (.sc (.int .u64 1)))),(.c (.d (.sc (.int .u64 0)))),(.c (.own [] .full)),(.c (.d (.sc (.int .i64 500))))],none,0,0⟩,
 ⟨(some 81),.mov (.t 84),none,0,0⟩,
 ⟨(some 85),.extract (.t 81) 0,none,0,0⟩,
 ⟨(some 86),.extract (.t 81) 1,none,0,0⟩,
 ⟨(some 87),.extract (.t 81) 2,none,0,0⟩,
 ⟨(some 14),.alloc [(.d (.sc (.int .u64 0))),(.own [] .full)],none,0,0⟩,
 ⟨none,.store 2 (.t 14) (.t 85),none,0,0⟩,
 ⟨(some 15),.mov (.t 86),none,0,0⟩,
 ⟨(some 16),.mov (.t 87),none,0,0⟩] false)
 (.seq
 (.region [⟨(some 89),.load 2 true (.t 14),none,0,0⟩,
 ⟨(some 90),.load 3 true (.t 1),none,0,0⟩,
 ⟨(some 91),.call 20 [(.t 89),(.t 90),(.c (.d (.sc (.int .u64 256))))],none,0,0⟩,
 ⟨(some 88),.mov (.t 91),none,0,0⟩,
 ⟨(some 92),.extract (.t 88) 0,none,0,0⟩,
 ⟨(some 93),.extract (.t 88) 1,none,0,0⟩,
 ⟨(some 17),.mov (.t 92),none,0,0⟩,
 ⟨(some 18),.mov (.t 93),none,0,0⟩] false)
 (.seq
 (.region [⟨(some 94),.mov (.t 16),none,0,0⟩,
 ⟨(some 95),.bin .eql (.t 94) (.c (.d (.sc (.int .i64 0)))),none,0,0⟩,
 ⟨(some 96),.mov (.t 95),none,0,0⟩,
 ⟨(some 97),.mov (.t 18),(some (96,true)),0,0⟩,
 ⟨(some 98),.bin .eql (.t 97) (.c (.d (.sc (.int .i64 12)))),(some (96,true)),0,0⟩,
 ⟨(some 99),.pick (.t 96) (.t 98) (.c (.d (.sc (.bool false)))),none,0,0⟩,
 ⟨(some 0),.mov (.t 99),none,0,0⟩] false)
 .ret))))))),false⟩
def t24:AFn:=⟨1,11,[.t 2],
 (.seq
 (.region [⟨(some 1),.box (.t 0),none,0,0⟩,
 ⟨(some 2),.mov (.c (.d (.sc (.int .i64 0)))),none,0,0⟩] false)
 (.seq
 (.region [⟨(some 6),.load 3 true (.t 1),none,0,0⟩,
 ⟨(some 7),.call 43 [(.t 6)],none,0,0⟩,
 ⟨(some 5),.mov (.t 7),none,0,0⟩,
 ⟨(some 8),.extract (.t 5) 0,none,0,0⟩,
 ⟨(some 9),.extract (.t 5) 1,none,0,0⟩,
 ⟨(some 3),.mov (.t 8),none,0,0⟩,
 ⟨(some 4),.mov (.t 9),none,0,0⟩] false)
 (.seq
 (.region [⟨(some 10),.mov (.t 4),none,0,0⟩,
 ⟨(some 2),.mov (.t 10),none,0,0⟩] false)
 .ret))),false⟩
def t25:AFn:=⟨2,31,[.t 4,.t 5],
 (.seq
 (.region [⟨(some 2),.box (.t 0),none,0,0⟩,
 ⟨(some 4),.mov (.c (.own [] .full)),none,0,0⟩,
 ⟨(some 5),.mov (.c (.d (.sc (.int .i64 0)))),none,0,0⟩] false)
 (.seq
 (.region [⟨(some 11),.fieldAddr 0 (.t 2),none,0,0⟩,
 ⟨(some 12),.load 1 false (.t 11),none,1,0⟩,
 ⟨(some 13),.fieldAddr 2 (.t 2),none,0,0⟩,
 ⟨(some 14),.load 1 false (.t 13),none,4,0⟩,
 ⟨(some 15),.mov (.t 1),none,0,0⟩,
 ⟨(some 16),.indexAddr 7 (.t 14) (.t 15),none,28,0⟩,
 ⟨(some 17),.fieldAddr 3 (.t 16),none,60,0⟩,
 ⟨(some 18),.load 1 false (.t 17),none,124,0⟩,
 ⟨(some 19),.call 44 [(.t 12),(.t 18)],none,255,0⟩,
 ⟨(some 10),.mov (.t 19),none,511,0⟩,
 ⟨(some 20),.extract (.t 10) 0,none,1023,0⟩,
 ⟨(some 21),.extract (.t 10) 1,none,1023,0⟩,
 ⟨(some 22),.extract (.t 10) 2,none,1023,0⟩,
 ⟨(some 23),.extract (.t 10) 3,none,1023,0⟩,
 ⟨(some 6),.mov (.t 20),none,2047,0⟩,
 ⟨(some 7),.mov (.t 21),none,20479,0⟩,
 ⟨(some 8),.mov (.t 22),none,57343,0⟩,
 ⟨(some 9),.mov (.t 23),none,131071,0⟩] true)
 (.seq
 (.region [⟨(some 25),.mov (.t 7),none,0,0⟩,
 ⟨(some 26),.callF 37 [(.t 25)],none,0,0⟩,
 ⟨(some 24),.mov (.t 26),none,0,0⟩,
 ⟨(some 27),.extract (.t 24) 0,none,0,0⟩,
 ⟨(some 28),.extract (.t 24) 1,none,0,0⟩,
 ⟨(some 7),.mov (.t 27),none,0,0⟩] false)
 (.seq
 (.region [⟨(some 29),.mov (.t 6),none,0,0⟩,
 ⟨(some 30),.mov (.t 7),none,0,0⟩,
 ⟨(some 4),.mov (.t 29),none,0,0⟩,
 ⟨(some 5),.mov (.t 30),none,0,0⟩] false)
 .ret)))),false⟩
def t27:AFn:=⟨2,45,[.t 4,.t 5,.t 6],
 (.seq
 (.region [⟨(some 2),.box (.t 0),none,0,0⟩,
 ⟨(some 4),.mov (.c (.d (.sc (.int .i64 0)))),none,0,0⟩,
 ⟨(some 5),.mov (.c (.d (.sc (.int .i64 0)))),none,0,0⟩,
 ⟨(some 6),.mov (.c (.d (.sc (.int .i64 0)))),none,0,0⟩] false)
 (.seq
 (.seq
 (.region [⟨(some 9),.load 3 true (.t 2),none,0,0⟩,
 ⟨(some 10),.callF 24 [(.t 9)],none,0,0⟩,
 ⟨(some 7),.mov (.t 10),none,0,0⟩] false)
 (.seq
 (.region [⟨(some 11),.mov (.t 7),none,0,0⟩,
 ⟨(some 12),.bin .neq (.t 11) (.c (.d (.sc (.int .i64 0)))),none,0,0⟩] false)
 (.cond (.t 12)
 (.seq
 (.region [⟨(some 13),.mov (.t 7),none,0,0⟩,
 ⟨(some 4),.mov (.c (.d (.sc (.int .i64 0)))),none,0,0⟩,
 ⟨(some 5),.mov (.c (.d (.sc (.int .i64 0)))),none,0,0⟩,
 ⟨(some 6),.mov (.t 13),none,0,0⟩] false)
 .ret)
 .skip)))
 (.seq
 (.region [⟨(some 14),.mov (.t 1),none,0,0⟩,
 ⟨(some 15),.bin .shr (.t 14) (.c (.d (.sc (.int .u64 8)))),none,0,0⟩,
 ⟨(some 16),.mov (.t 1),none,0,0⟩,
 ⟨(some 17),.bin .and (.t 16) (.c (.d (.sc (.int .u64 255)))),none,0,0⟩,
 ⟨(some 18),.conv .i64 (.t 17),none,0,0⟩,
 ⟨(some 8),.mov (.t 15),none,0,0⟩,
 ⟨(some 5),.mov (.t 18),none,0,0⟩] false)
 (.seq
 (.seq
 (.region [⟨(some 19),.mov (.t 8),none,0,0⟩,
 ⟨(some 20),.bin .eql (.t 19) (.c (.d (.sc (.int .u64 0)))),none,0,0⟩,
 ⟨(some 21),.mov (.t 20),none,0,0⟩,
 ⟨(some 22),.mov (.t 8),(some (21,false)),0,0⟩,
 ⟨(some 23),.fieldAddr 2 (.t 2),(some (21,false)),0,0⟩,
 ⟨(some 24),.load 1 false (.t 23),(some (21,false)),0,0⟩,
 ⟨(some 25),.len (.t 24),(some (21,false)),0,0⟩,
 ⟨(some 26),.conv .u64 (.t 25),(some (21,false)),0,0⟩,
 ⟨(some 27),.bin .gtr (.t 22) (.t 26),(some (21,false)),0,0⟩,
 ⟨(some 28),.pick (.t 21) (.c (.d (.sc (.bool true)))) (.t 27),none,0,0⟩,
 ⟨(some 29),.mov (.t 28),none,0,0⟩,
 ⟨(some 30),.mov (.t 5),(some (29,false)),0,0⟩,
 ⟨(some 31),.fieldAddr 2 (.t 2),(some (29,false)),0,0⟩,
 ⟨(some 32),.load 1 false (.t 31),(some (29,false)),0,0⟩,
 ⟨(some 33),.mov (.t 8),(some (29,false)),0,0⟩,
 ⟨(some 34),.bin .sub (.t 33) (.c (.d (.sc (.int .u64 1)))),(some (29,false)),0,0⟩,
 ⟨(some 35),.indexAddr 7 (.t 32) (.t 34),(some (29,false)),0,0⟩,
 ⟨(some 36),.fieldAddr 4 (.t 35),(some (29,false)),0,0⟩,
 ⟨(some 37),.load 1 false (.t 36),(some (29,false)),0,0⟩,
 ⟨(some 38),.len (.t 37),(some (29,false)),0,0⟩,
 ⟨(some 39),.bin .geq (.t 30) (.t 38),(some (29,false)),0,0⟩,
 ⟨(some 40),.pick (.t 29) (.c (.d (.sc (.bool true)))) (.t 39),none,0,0⟩] false)
 (.cond (.t 40)
 (.seq
 (.region [⟨(some 4),.mov (.c (.d (.sc (.int .i64 0)))),none,0,0⟩,
 ⟨(some 5),.mov (.c (.d (.sc (.int .i64 0)))),none,0,0⟩,
 ⟨(some 6),.mov (.c (.d (.sc (.int .i64 6)))),none,0,0⟩] false)
 .ret)
 .skip))
 (.seq
 (.region [⟨(some 41),.mov (.t 8),none,0,0⟩,
 ⟨(some 42),.conv .i64 (.t 41),none,0,0⟩,
 ⟨(some 43),.bin .sub (.t 42) (.c (.d (.sc (.int .i64 1)))),none,0,0⟩,
 ⟨(some 44),.mov (.t 5),none,0,0⟩,
 ⟨(some 4),.mov (.t 43),none,0,0⟩,
 ⟨(some 5),.mov (.t 44),none,0,0⟩,
 ⟨(some 6),.mov (.c (.d (.sc (.int .i64 0)))),none,0,0⟩] false)
 .ret))))),false⟩
def t28:AFn:=⟨3,33,[.t 6,.t 7],
 (.seq
 (.region [⟨(some 3),.box (.t 0),none,0,0⟩,
 ⟨(some 5),.box (.t 2),none,0,0⟩,
 ⟨(some 6),.mov (.c (.d (.sc (.int .u64 0)))),none,0,0⟩,
 ⟨(some 7),.mov (.c (.d (.sc (.int .i64 0)))),none,0,0⟩] false)
 (.seq
 (.seq
 (.region [⟨(some 10),.load 1 false (.t 3),none,0,0⟩,
 ⟨(some 11),.mov (.t 1),none,0,0⟩,
 ⟨(some 12),.callF 46 [(.t 10),(.t 11)],none,0,0⟩,
 ⟨(some 8),.mov (.t 12),none,0,0⟩] false)
 (.seq
 (.region [⟨(some 13),.mov (.t 8),none,0,0⟩,
 ⟨(some 14),.bin .neq (.t 13) (.c (.d (.sc (.int .i64 0)))),none,0,0⟩] false)
 (.cond (.t 14)
 (.seq
 (.region [⟨(some 15),.mov (.t 8),none,0,0⟩,
 ⟨(some 6),.mov (.c (.d (.sc (.int .u64 0)))),none,0,0⟩,
 ⟨(some 7),.mov (.t 15),none,0,0⟩] false)
 .ret)
 .skip)))
 (.seq
 (.seq
 (.region [⟨(some 16),.load 1 false (.t 5),none,0,0⟩,
 ⟨(some 17),.bin .lss (.t 16) (.c (.d (.sc (.int .i64 0)))),none,0,0⟩,
 ⟨(some 18),.mov (.t 17),none,0,0⟩,
 ⟨(some 19),.load 1 false (.t 5),(some (18,false)),0,0⟩,
 ⟨(some 20),.mov (.t 1),(some (18,false)),0,0⟩,
 ⟨(some 21),.bin .geq (.t 19) (.t 20),(some (18,false)),0,0⟩,
 ⟨(some 22),.pick (.t 18) (.c (.d (.sc (.bool true)))) (.t 21),none,0,0⟩] false)
 (.cond (.t 22)
 (.seq
 (.region [⟨(some 6),.mov (.c (.d (.sc (.int .u64 0)))),none,0,0⟩,
 ⟨(some 7),.mov (.c (.d (.sc (.int .i64 2)))),none,0,0⟩] false)
 .ret)
 .skip))
 (.seq
 (.region [⟨(some 23),.load 1 false (.t 3),none,0,0⟩,
 ⟨(some 24),.len (.t 23),none,0,0⟩,
 ⟨(some 25),.makeFunc 48 [(.t 3),(.t 5)],none,0,0⟩,
 ⟨(some 26),.callF 47 [(.t 24),(.t 25)],none,0,0⟩,
 ⟨(some 9),.mov (.t 26),none,0,0⟩] false)
 (.seq
 (.region [⟨(some 27),.load 1 false (.t 3),none,0,0⟩,
 ⟨(some 28),.mov (.t 9),none,0,0⟩,
 ⟨(some 29),.bin .sub (.t 28) (.c (.d (.sc (.int .i64 1)))),none,0,0⟩,
 ⟨(some 30),.indexAddr 2 (.t 27) (.t 29),none,0,0⟩,
 ⟨(some 31),.fieldAddr 1 (.t 30),none,0,0⟩,
 ⟨(some 32),.load 1 false (.t 31),none,0,0⟩,
 ⟨(some 6),.mov (.t 32),none,0,0⟩,
 ⟨(some 7),.mov (.c (.d (.sc (.int .i64 0)))),none,0,0⟩] false)
 .ret))))),false⟩
def t33:AFn:=⟨2,30,[.t 4,.t 5],
 (.seq
 (.region [⟨(some 4),.mov (.c (.own [] .full)),none,0,0⟩,
 ⟨(some 5),.mov (.c (.d (.sc (.int .i64 0)))),none,0,0⟩] false)
 (.seq
 (.seq
 (.region [⟨(some 8),.mov (.t 0),none,0,0⟩,
 ⟨(some 9),.callF 61 [(.t 8)],none,0,0⟩,
 ⟨(some 6),.mov (.t 9),none,0,0⟩] false)
 (.seq
 (.region [⟨(some 10),.mov (.t 6),none,0,0⟩,
 ⟨(some 11),.bin .neq (.t 10) (.c (.d (.sc (.int .i64 0)))),none,0,0⟩] false)
 (.cond (.t 11)
 (.seq
 (.region [⟨(some 12),.mov (.t 6),none,0,0⟩,
 ⟨(some 4),.mov (.c (.own [] .full)),none,0,0⟩,
 ⟨(some 5),.mov (.t 12),none,0,0⟩] false)
 .ret)
 .skip)))
 (.seq
 (.seq
 (.region [⟨(some 13),.mov (.t 1),none,0,0⟩,
 ⟨(some 14),.bin .lss (.t 13) (.c (.d (.sc (.int .i64 0)))),none,0,0⟩,
 ⟨(some 15),.mov (.t 14),none,0,0⟩,
 ⟨(some 16),.mov (.t 1),(some (15,false)),0,0⟩,
 ⟨(some 17),.mov (.t 0),(some (15,false)),0,0⟩,
 ⟨(some 18),.len (.t 17),(some (15,false)),0,0⟩,
 ⟨(some 19),.bin .geq (.t 16) (.t 18),(some (15,false)),0,0⟩,
 ⟨(some 20),.pick (.t 15) (.c (.d (.sc (.bool true)))) (.t 19),none,0,0⟩] false)
 (.cond (.t 20)
 (.seq
 (.region [⟨(some 4),.mov (.c (.own [] .full)),none,0,0⟩,
 ⟨(some 5),.mov (.c (.d (.sc (.int .i64 2)))),none,0,0⟩] false)
 .ret)
 .skip))
 (.seq
 (.region [⟨(some 21),.mov (.t 0),none,0,0⟩,
 ⟨(some 22),.call 62 [(.t 21)],none,0,0⟩,
 ⟨(some 7),.mov (.t 22),none,0,0⟩] false)
 (.seq
 (.seq
 (.region [⟨(some 23),.mov (.t 7),none,0,0⟩,
 ⟨(some 24),.mov (.t 1),none,0,0⟩,
 ⟨(some 25),.indexAddr 2 (.t 23) (.t 24),none,0,0⟩,
 ⟨(some 26),.fieldAddr 0 (.t 25),none,0,0⟩,
 ⟨(some 27),.load 1 false (.t 26),none,0,0⟩,
 ⟨(some 28),.bin .gtr (.t 27) (.c (.d (.sc (.int .i64 256)))),none,0,0⟩] false)
 (.cond (.t 28)
 (.seq
 (.region [⟨(some 4),.mov (.c (.own [] .full)),none,0,0⟩,
 ⟨(some 5),.mov (.c (.d (.sc (.int .i64 16)))),none,0,0⟩] false)
 .ret)
 .skip))
 (.seq
 (.region [⟨(some 29),.mov (.t 7),none,0,0⟩,
 ⟨(some 4),.mov (.t 29),none,0,0⟩,
 ⟨(some 5),.mov (.c (.d (.sc (.int .i64 0)))),none,0,0⟩] false)
 .ret)))))),false⟩
def t35:AFn:=⟨1,32,[.t 2],
 (.seq
 (.region [⟨(some 1),.box (.t 0),none,0,0⟩,
 ⟨(some 2),.mov (.c (.d (.sc (.int .i64 0)))),none,0,0⟩] false)
 (.seq
 (.region [⟨(some 4),.fieldAddr 0 (.t 1),none,0,0⟩,
 ⟨(some 5),.load 1 false (.t 4),none,0,0⟩,
 ⟨(some 6),.bin .quo (.t 5) (.c (.d (.sc (.int .u64 16777216)))),none,0,0⟩,
 ⟨(some 3),.mov (.t 6),none,0,0⟩] false)
 (.seq
 (.seq
 (.region [⟨(some 7),.fieldAddr 0 (.t 1),none,0,0⟩,
 ⟨(some 8),.load 1 false (.t 7),none,0,0⟩,
 ⟨(some 9),.bin .rem (.t 8) (.c (.d (.sc (.int .u64 16777216)))),none,0,0⟩,
 ⟨(some 10),.bin .neq (.t 9) (.c (.d (.sc (.int .u64 0)))),none,0,0⟩,
 ⟨(some 11),.mov (.t 10),none,0,0⟩,
 ⟨(some 12),.mov (.t 3),(some (11,false)),0,0⟩,
 ⟨(some 13),.bin .lss (.t 12) (.c (.d (.sc (.int .u64 1)))),(some (11,false)),0,0⟩,
 ⟨(some 14),.pick (.t 11) (.c (.d (.sc (.bool true)))) (.t 13),none,0,0⟩,
 ⟨(some 15),.mov (.t 14),none,0,0⟩,
 ⟨(some 16),.mov (.t 3),(some (15,false)),0,0⟩,
 ⟨(some 17),.bin .gtr (.t 16) (.c (.d (.sc (.int .u64 16)))),(some (15,false)),0,0⟩,
 ⟨(some 18),.pick (.t 15) (.c (.d (.sc (.bool true)))) (.t 17),none,0,0⟩,
 ⟨(some 19),.mov (.t 18),none,0,0⟩,
 ⟨(some 20),.fieldAddr 1 (.t 1),(some (19,false)),0,0⟩,
 ⟨(some 21),.load 1 false (.t 20),(some (19,false)),0,0⟩,
 ⟨(some 22),.len (.t 21),(some (19,false)),0,0⟩,
 ⟨(some 23),.bin .rem (.t 22) (.c (.d (.sc (.int .i64 8)))),(some (19,false)),0,0⟩,
 ⟨(some 24),.bin .neq (.t 23) (.c (.d (.sc (.int .i64 0)))),(some (19,false)),0,0⟩,
 ⟨(some 25),.pick (.t 19) (.c (.d (.sc (.bool true)))) (.t 24),none,0,0⟩,
 ⟨(some 26),.mov (.t 25),none,0,0⟩,
 ⟨(some 27),.fieldAddr 1 (.t 1),(some (26,false)),0,0⟩,
 ⟨(some 28),.load 1 false (.t 27),(some (26,false)),0,0⟩,
 ⟨(some 29),.len (.t 28),(some (26,false)),0,0⟩,
 ⟨(some 30),.bin .gtr (.t 29) (.c (.d (.sc (.int .i64 4096)))),(some (26,false)),0,0⟩,
 ⟨(some 31),.pick (.t 26) (.c (.d (.sc (.bool true)))) (.t 30),none,0,0⟩] false)
 (.cond (.t 31)
 (.seq
 (.region [⟨(some 2),.mov (.c (.d (.sc (.int .i64 8)))),none,0,0⟩] false)
 .ret)
 .skip))
 (.seq
 (.region [⟨(some 2),.mov (.c (.d (.sc (.int .i64 0)))),none,0,0⟩] false)
 .ret)))),false⟩
def t36:AFn:=⟨2,14,[.t 4],
 (.seq
 (.region [⟨(some 4),.mov (.c (.d (.sc (.bool false)))),none,0,0⟩] false)
 (.seq
 (.region [⟨(some 5),.mov (.t 0),none,0,0⟩,
 ⟨(some 6),.bin .leq (.t 5) (.c (.d (.sc (.int .u64 3)))),none,0,0⟩,
 ⟨(some 7),.mov (.t 6),none,0,0⟩,
 ⟨(some 8),.mov (.t 1),(some (7,true)),0,0⟩,
 ⟨(some 9),.bin .neq (.t 8) (.c (.d (.sc (.int .u64 0)))),(some (7,true)),0,0⟩,
 ⟨(some 10),.mov (.t 0),(some (7,true)),0,0⟩,
 ⟨(some 11),.bin .geq (.t 10) (.c (.d (.sc (.int .u64 2)))),(some (7,true)),0,0⟩,
 ⟨(some 12),.eqb false (.t 9) (.t 11),(some (7,true)),0,0⟩,
 ⟨(some 13),.pick (.t 7) (.t 12) (.c (.d (.sc (.bool false)))),none,0,0⟩,
 ⟨(some 4),.mov (.t 13),none,0,0⟩] false)
 .ret)),false⟩
def t37:AFn:=⟨1,13,[.t 2,.t 3],
 (.seq
 (.region [⟨(some 2),.mov (.c (.d (.sc (.int .i64 0)))),none,0,0⟩,
 ⟨(some 3),.mov (.c (.d (.sc (.int .i64 0)))),none,0,0⟩] false)
 (.seq
 (.seq
 (.region [⟨(some 4),.mov (.t 0),none,0,0⟩,
 ⟨(some 5),.bin .lss (.t 4) (.c (.d (.sc (.int .i64 0)))),none,0,0⟩,
 ⟨(some 6),.mov (.t 5),none,0,0⟩,
 ⟨(some 7),.mov (.t 0),(some (6,false)),0,0⟩,
 ⟨(some 8),.bin .gtr (.t 7) (.c (.d (.sc (.int .i64 1073741824)))),(some (6,false)),0,0⟩,
 ⟨(some 9),.pick (.t 6) (.c (.d (.sc (.bool true)))) (.t 8),none,0,0⟩] false)
 (.cond (.t 9)
 (.seq
 (.region [⟨(some 2),.mov (.c (.d (.sc (.int .i64 0)))),none,0,0⟩,
 ⟨(some 3),.mov (.c (.d (.sc (.int .i64 2)))),none,0,0⟩] false)
 .ret)
 .skip))
 (.seq
 (.region [⟨(some 10),.mov (.t 0),none,0,0⟩,
 ⟨(some 11),.bin .add (.t 10) (.c (.d (.sc (.int .i64 7)))),none,0,0⟩,
 ⟨(some 12),.bin .andNot (.t 11) (.c (.d (.sc (.int .i64 7)))),none,0,0⟩,
 ⟨(some 2),.mov (.t 12),none,0,0⟩,
 ⟨(some 3),.mov (.c (.d (.sc (.int .i64 0)))),none,0,0⟩] false)
 .ret))),false⟩
def t38:AFn:=⟨1,36,[.t 2],
 (.seq
 (.region [⟨(some 2),.mov (.c (.own [] .full)),none,0,0⟩] false)
 (.seq
 (.region [⟨(some 3),.mov (.c (.d (.sc (.int .i64 0)))),none,0,0⟩] false)
 (.seq
 (.seq
 (.region [⟨(some 9),.mov (.t 0),none,0,0⟩,
 ⟨(some 10),.len (.t 9),none,0,0⟩,
 ⟨(some 11),.mov (.c (.d (.sc (.int .i64 0)))),none,0,0⟩] false)
 (.block 0
 (.loop
 (.seq
 (.region [⟨(some 12),.bin .lss (.t 11) (.t 10),none,0,0⟩] false)
 (.seq
 (.cond (.t 12)
 .skip
 (.exit 0))
 (.seq
 (.block 1
 (.seq
 (.region [⟨(some 13),.indexAddr 1 (.t 9) (.t 11),none,0,0⟩,
 ⟨(some 14),.load 1 false (.t 13),none,0,0⟩,
 ⟨(some 5),.mov (.t 14),none,0,0⟩] false)
 (.seq
 (.region [⟨(some 15),.mov (.t 3),none,0,0⟩,
 ⟨(some 16),.mov (.t 5),none,0,0⟩,
 ⟨(some 17),.len (.t 16),none,0,0⟩,
 ⟨(some 18),.bin .add (.t 15) (.t 17),none,0,0⟩,
 ⟨(some 3),.mov (.t 18),none,0,0⟩] false)
 (.seq
 (.region [⟨(some 19),.mov (.t 3),none,0,0⟩,
 ⟨(some 20),.bin .lss (.t 19) (.c (.d (.sc (.int .i64 0)))),none,0,0⟩] false)
 (.cond (.t 20)
 (.region [⟨(some 21),.bad,none,0,0⟩,
 ⟨none,.bad,none,0,0⟩] false)
 .skip)))))
 (.region [⟨(some 22),.bin .add (.t 11) (.c (.d (.sc (.int .i64 1)))),none,0,0⟩,
 ⟨(some 11),.mov (.t 22),none,0,0⟩] false)))))))
 (.seq
 (.region [⟨(some 23),.mov (.t 3),none,0,0⟩,
 ⟨(some 24),.call 63 [(.c (.own [] .full)),(.t 23)],none,0,65537⟩,
 ⟨(some 6),.mov (.t 24),none,0,0⟩] false)
 (.seq
 (.seq
 (.region [⟨(some 25),.mov (.t 0),none,0,0⟩,
 ⟨(some 26),.len (.t 25),none,0,0⟩,
 ⟨(some 27),.mov (.c (.d (.sc (.int .i64 0)))),none,0,0⟩] false)
 (.block 2
 (.loop
 (.seq
 (.region [⟨(some 28),.bin .lss (.t 27) (.t 26),none,0,0⟩] false)
 (.seq
 (.cond (.t 28)
 .skip
 (.exit 2))
 (.seq
 (.block 3
 (.seq
 (.region [⟨(some 29),.indexAddr 1 (.t 25) (.t 27),none,0,0⟩,
 ⟨(some 30),.load 1 false (.t 29),none,0,0⟩,
 ⟨(some 8),.mov (.t 30),none,0,0⟩] false)
 (.region [⟨(some 31),.mov (.t 6),none,0,0⟩,
 ⟨(some 32),.mov (.t 8),none,0,0⟩,
 ⟨(some 33),.append 1 1 (.t 31) (.t 32),none,0,0⟩,
 ⟨(some 6),.mov (.t 33),none,0,0⟩] false)))
 (.region [⟨(some 34),.bin .add (.t 27) (.c (.d (.sc (.int .i64 1)))),none,0,0⟩,
 ⟨(some 27),.mov (.t 34),none,0,0⟩] false)))))))
 (.seq
 (.region [⟨(some 35),.mov (.t 6),none,0,0⟩,
 ⟨(some 2),.mov (.t 35),none,0,0⟩] false)
 .ret)))))),false⟩
def t39:AFn:=⟨3,26,[.t 6,.t 7],
 (.seq
 (.region [⟨(some 3),.box (.t 0),none,0,0⟩,
 ⟨(some 6),.mov (.c (.d (.sc (.bool false)))),none,0,0⟩,
 ⟨(some 7),.mov (.c (.d (.sc (.int .i64 0)))),none,0,0⟩] false)
 (.seq
 (.seq
 (.region [⟨(some 11),.load 2 true (.t 3),none,0,0⟩,
 ⟨(some 12),.callF 64 [(.t 11)],none,0,0⟩,
 ⟨(some 8),.mov (.t 12),none,0,0⟩] false)
 (.seq
 (.region [⟨(some 13),.mov (.t 8),none,0,0⟩,
 ⟨(some 14),.bin .neq (.t 13) (.c (.d (.sc (.int .i64 0)))),none,0,0⟩] false)
 (.cond (.t 14)
 (.seq
 (.region [⟨(some 15),.mov (.t 8),none,0,0⟩,
 ⟨(some 6),.mov (.c (.d (.sc (.bool false)))),none,0,0⟩,
 ⟨(some 7),.mov (.t 15),none,0,0⟩] false)
 .ret)
 .skip)))
 (.seq
 (.seq
 (.region [⟨(some 16),.mov (.t 2),none,0,0⟩,
 ⟨(some 17),.bin .lss (.t 16) (.c (.d (.sc (.int .i64 0)))),none,0,0⟩] false)
 (.cond (.t 17)
 (.seq
 (.region [⟨(some 6),.mov (.c (.d (.sc (.bool false)))),none,0,0⟩,
 ⟨(some 7),.mov (.c (.d (.sc (.int .i64 2)))),none,0,0⟩] false)
 .ret)
 .skip))
 (.seq
 (.region [⟨(some 19),.load 2 true (.t 3),none,0,0⟩,
 ⟨(some 20),.mov (.t 1),none,0,0⟩,
 ⟨(some 21),.mov (.t 2),none,0,0⟩,
 ⟨(some 22),.callF 65 [(.t 19),(.t 20),(.t 21)],none,0,0⟩,
 ⟨(some 18),.mov (.t 22),none,0,0⟩,
 ⟨(some 23),.extract (.t 18) 0,none,0,0⟩,
 ⟨(some 24),.extract (.t 18) 1,none,0,0⟩,
 ⟨(some 9),.mov (.t 23),none,0,0⟩,
 ⟨(some 10),.mov (.t 24),none,0,0⟩] false)
 (.seq
 (.region [⟨(some 25),.mov (.t 10),none,0,0⟩,
 ⟨(some 6),.mov (.t 25),none,0,0⟩,
 ⟨(some 7),.mov (.c (.d (.sc (.int .i64 0)))),none,0,0⟩] false)
 .ret))))),false⟩
def t40:AFn:=⟨3,40,[.t 6,.t 7],
 (.seq
 (.region [⟨(some 3),.box (.t 0),none,0,0⟩,
 ⟨(some 6),.mov (.c (.d (.sc (.int .u64 0)))),none,0,0⟩,
 ⟨(some 7),.mov (.c (.d (.sc (.int .i64 0)))),none,0,0⟩] false)
 (.seq
 (.region [⟨(some 13),.load 2 true (.t 3),none,0,0⟩,
 ⟨(some 14),.mov (.t 1),none,0,0⟩,
 ⟨(some 15),.mov (.t 2),none,0,0⟩,
 ⟨(some 16),.callF 66 [(.t 13),(.t 14),(.t 15)],none,0,0⟩,
 ⟨(some 12),.mov (.t 16),none,0,0⟩,
 ⟨(some 17),.extract (.t 12) 0,none,0,0⟩,
 ⟨(some 18),.extract (.t 12) 1,none,0,0⟩,
 ⟨(some 8),.mov (.t 17),none,0,0⟩,
 ⟨(some 9),.mov (.t 18),none,0,0⟩] false)
 (.seq
 (.seq
 (.region [⟨(some 19),.mov (.t 9),none,0,0⟩,
 ⟨(some 20),.bin .neq (.t 19) (.c (.d (.sc (.int .i64 0)))),none,0,0⟩] false)
 (.cond (.t 20)
 (.seq
 (.region [⟨(some 21),.mov (.t 9),none,0,0⟩,
 ⟨(some 6),.mov (.c (.d (.sc (.int .u64 0)))),none,0,0⟩,
 ⟨(some 7),.mov (.t 21),none,0,0⟩] false)
 .ret)
 .skip))
 (.seq
 (.region [⟨(some 10),.mov (.c (.d (.sc (.int .u64 0)))),none,0,0⟩] false)
 (.seq
 (.seq
 (.region [⟨(some 22),.mov (.t 2),none,0,0⟩,
 ⟨(some 23),.bin .sub (.t 22) (.c (.d (.sc (.int .i64 1)))),none,0,0⟩,
 ⟨(some 11),.mov (.t 23),none,0,0⟩] false)
 (.block 0
 (.loop
 (.seq
 (.seq
 (.region [⟨(some 24),.mov (.t 11),none,0,0⟩,
 ⟨(some 25),.bin .geq (.t 24) (.c (.d (.sc (.int .i64 0)))),none,0,0⟩] false)
 (.cond (.t 25)
 .skip
 (.exit 0)))
 (.seq
 (.block 1
 (.region [⟨(some 28),.mov (.t 10),none,0,0⟩,
 ⟨(some 29),.bin .shl (.t 28) (.c (.d (.sc (.int .u64 8)))),none,0,0⟩,
 ⟨(some 30),.fieldAddr 1 (.t 3),none,0,0⟩,
 ⟨(some 31),.load 1 false (.t 30),none,0,0⟩,
 ⟨(some 32),.mov (.t 8),none,0,0⟩,
 ⟨(some 33),.mov (.t 11),none,0,0⟩,
 ⟨(some 34),.bin .add (.t 32) (.t 33),none,0,0⟩,
 ⟨(some 35),.indexAddr 1 (.t 31) (.t 34),none,0,0⟩,
 ⟨(some 36),.load 1 false (.t 35),none,0,0⟩,
 ⟨(some 37),.conv .u64 (.t 36),none,0,0⟩,
 ⟨(some 38),.bin .or (.t 29) (.t 37),none,0,0⟩,
 ⟨(some 10),.mov (.t 38),none,0,0⟩] false))
 (.region [⟨(some 26),.mov (.t 11),none,0,0⟩,
 ⟨(some 27),.bin .sub (.t 26) (.c (.d (.sc (.int .i64 1)))),none,0,0⟩,
 ⟨(some 11),.mov (.t 27),none,0,0⟩] false))))))
 (.seq
 (.region [⟨(some 39),.mov (.t 10),none,0,0⟩,
 ⟨(some 6),.mov (.t 39),none,0,0⟩,
 ⟨(some 7),.mov (.c (.d (.sc (.int .i64 0)))),none,0,0⟩] false)
 .ret)))))),false⟩
def t41:AFn:=⟨2,31,[.cell 4 2 true,.t 5],
 (.seq
 (.region [⟨(some 2),.box (.t 0),none,0,0⟩,
 ⟨(some 4),.alloc [(.d (.sc (.int .u64 0))),(.own [] .full)],none,0,0⟩,
 ⟨(some 5),.mov (.c (.d (.sc (.int .i64 0)))),none,0,0⟩] false)
 (.seq
 (.seq
 (.region [⟨(some 8),.load 2 true (.t 2),none,0,0⟩,
 ⟨(some 9),.callF 64 [(.t 8)],none,0,0⟩,
 ⟨(some 6),.mov (.t 9),none,0,0⟩] false)
 (.seq
 (.region [⟨(some 10),.mov (.t 6),none,0,0⟩,
 ⟨(some 11),.bin .neq (.t 10) (.c (.d (.sc (.int .i64 0)))),none,0,0⟩] false)
 (.cond (.t 11)
 (.seq
 (.region [⟨(some 12),.build [(.d (.sc (.int .u64 0))),(.own [] .full)] [],none,0,0⟩,
 ⟨(some 13),.mov (.t 6),none,0,0⟩,
 ⟨none,.store 2 (.t 4) (.t 12),none,0,0⟩,
 ⟨(some 5),.mov (.t 13),none,0,0⟩] false)
 .ret)
 .skip)))
 (.seq
 (.seq
 (.region [⟨(some 14),.mov (.t 1),none,0,0⟩,
 ⟨(some 15),.bin .lss (.t 14) (.c (.d (.sc (.int .i64 0)))),none,0,0⟩,
 ⟨(some 16),.mov (.t 15),none,0,0⟩,
 ⟨(some 17),.mov (.t 1),(some (16,false)),0,0⟩,
 ⟨(some 18),.bin .gtr (.t 17) (.c (.d (.sc (.int .i64 20000)))),(some (16,false)),0,0⟩,
 ⟨(some 19),.pick (.t 16) (.c (.d (.sc (.bool true)))) (.t 18),none,0,0⟩] false)
 (.cond (.t 19)
 (.seq
 (.region [⟨(some 20),.build [(.d (.sc (.int .u64 0))),(.own [] .full)] [],none,0,0⟩,
 ⟨none,.store 2 (.t 4) (.t 20),none,0,0⟩,
 ⟨(some 5),.mov (.c (.d (.sc (.int .i64 2)))),none,0,0⟩] false)
 .ret)
 .skip))
 (.seq
 (.region [⟨(some 21),.mov (.t 1),none,0,0⟩,
 ⟨(some 22),.makeSlice 1 1 [(.sc (.int .u8 0))] (.t 21) (.t 21),none,0,1⟩,
 ⟨(some 7),.mov (.t 22),none,0,0⟩] false)
 (.seq
 (.region [⟨(some 23),.mov (.t 7),none,0,0⟩,
 ⟨(some 24),.fieldAddr 1 (.t 2),none,0,0⟩,
 ⟨(some 25),.load 1 false (.t 24),none,0,0⟩,
 ⟨(some 26),.copy 1 (.t 23) (.t 25),none,0,0⟩] false)
 (.seq
 (.region [⟨(some 27),.fieldAddr 0 (.t 2),none,0,0⟩,
 ⟨(some 28),.load 1 false (.t 27),none,0,0⟩,
 ⟨(some 29),.mov (.t 7),none,0,0⟩,
 ⟨(some 30),.build [(.d (.sc (.int .u64 0))),(.own [] .full)] [(0,1,(.t 28)),(1,1,(.t 29))],none,0,0⟩,
 ⟨none,.store 2 (.t 4) (.t 30),none,0,0⟩,
 ⟨(some 5),.mov (.c (.d (.sc (.int .i64 0)))),none,0,0⟩] false)
 .ret)))))),false⟩
def t42:AFn:=⟨2,26,[.t 4],
 (.seq
 (.region [⟨(some 4),.mov (.c (.d (.sc (.bool false)))),none,0,0⟩] false)
 (.seq
 (.seq
 (.region [⟨(some 6),.mov (.t 0),none,0,0⟩,
 ⟨(some 7),.len (.t 6),none,0,0⟩,
 ⟨(some 8),.mov (.t 1),none,0,0⟩,
 ⟨(some 9),.len (.t 8),none,0,0⟩,
 ⟨(some 10),.bin .neq (.t 7) (.t 9),none,0,0⟩] false)
 (.cond (.t 10)
 (.seq
 (.region [⟨(some 4),.mov (.c (.d (.sc (.bool false)))),none,0,0⟩] false)
 .ret)
 .skip))
 (.seq
 (.seq
 (.region [⟨(some 5),.mov (.c (.d (.sc (.int .i64 0)))),none,0,0⟩] false)
 (.block 0
 (.loop
 (.seq
 (.seq
 (.region [⟨(some 11),.mov (.t 5),none,0,0⟩,
 ⟨(some 12),.mov (.t 0),none,0,0⟩,
 ⟨(some 13),.len (.t 12),none,0,0⟩,
 ⟨(some 14),.bin .lss (.t 11) (.t 13),none,0,0⟩] false)
 (.cond (.t 14)
 .skip
 (.exit 0)))
 (.seq
 (.block 1
 (.seq
 (.region [⟨(some 17),.mov (.t 0),none,0,0⟩,
 ⟨(some 18),.mov (.t 5),none,0,0⟩,
 ⟨(some 19),.indexAddr 5 (.t 17) (.t 18),none,3,0⟩,
 ⟨(some 20),.load 5 true (.t 19),none,7,0⟩,
 ⟨(some 21),.mov (.t 1),none,0,0⟩,
 ⟨(some 22),.mov (.t 5),none,0,0⟩,
 ⟨(some 23),.indexAddr 5 (.t 21) (.t 22),none,48,0⟩,
 ⟨(some 24),.load 5 true (.t 23),none,112,0⟩,
 ⟨(some 25),.eqA true 5 [(0,1),(1,1),(2,1),(3,1),(4,1)] (.t 20) (.t 24),none,255,0⟩] true)
 (.cond (.t 25)
 (.seq
 (.region [⟨(some 4),.mov (.c (.d (.sc (.bool false)))),none,0,0⟩] false)
 .ret)
 .skip)))
 (.region [⟨(some 15),.mov (.t 5),none,0,0⟩,
 ⟨(some 16),.bin .add (.t 15) (.c (.d (.sc (.int .i64 1)))),none,0,0⟩,
 ⟨(some 5),.mov (.t 16),none,0,0⟩] false))))))
 (.seq
 (.region [⟨(some 4),.mov (.c (.d (.sc (.bool true)))),none,0,0⟩] false)
 .ret)))),false⟩
def t43:AFn:=⟨1,53,[.t 2,.t 3],
 (.seq
 (.region [⟨(some 1),.box (.t 0),none,0,0⟩,
 ⟨(some 2),.mov (.c (.own [] .full)),none,0,0⟩,
 ⟨(some 3),.mov (.c (.d (.sc (.int .i64 0)))),none,0,0⟩] false)
 (.seq
 (.seq
 (.region [⟨(some 10),.load 3 true (.t 1),none,0,0⟩,
 ⟨(some 11),.callF 67 [(.t 10)],none,0,0⟩,
 ⟨(some 12),.un .not (.t 11),none,0,0⟩] false)
 (.cond (.t 12)
 (.seq
 (.region [⟨(some 2),.mov (.c (.own [] .full)),none,0,0⟩,
 ⟨(some 3),.mov (.c (.d (.sc (.int .i64 8)))),none,0,0⟩] false)
 .ret)
 .skip))
 (.seq
 (.region [⟨(some 4),.alloc [(.own [] .full)],none,0,0⟩] false)
 (.seq
 (.region [⟨(some 13),.fieldAddr 0 (.t 1),none,0,0⟩,
 ⟨(some 14),.load 1 false (.t 13),none,0,0⟩,
 ⟨(some 15),.callF 68 [(.t 4),(.t 14)],none,0,0⟩] false)
 (.seq
 (.region [⟨(some 16),.fieldAddr 1 (.t 1),none,0,0⟩,
 ⟨(some 17),.load 1 false (.t 16),none,0,0⟩,
 ⟨(some 18),.len (.t 17),none,0,0⟩,
 ⟨(some 19),.callF 69 [(.t 4),(.t 18)],none,0,0⟩] false)
 (.seq
 (.seq
 (.region [⟨(some 20),.fieldAddr 1 (.t 1),none,0,0⟩,
 ⟨(some 21),.load 1 false (.t 20),none,0,0⟩,
 ⟨(some 22),.len (.t 21),none,0,0⟩,
 ⟨(some 23),.mov (.c (.d (.sc (.int .i64 0)))),none,0,0⟩] false)
 (.block 0
 (.loop
 (.seq
 (.region [⟨(some 24),.bin .lss (.t 23) (.t 22),none,0,0⟩] false)
 (.seq
 (.cond (.t 24)
 .skip
 (.exit 0))
 (.seq
 (.block 1
 (.seq
 (.region [⟨(some 25),.indexAddr 1 (.t 21) (.t 23),none,0,0⟩,
 ⟨(some 26),.load 1 false (.t 25),none,0,0⟩,
 ⟨(some 6),.mov (.t 26),none,0,0⟩] false)
 (.region [⟨(some 27),.mov (.t 6),none,0,0⟩,
 ⟨(some 28),.callF 70 [(.t 4),(.t 27)],none,0,0⟩] false)))
 (.region [⟨(some 29),.bin .add (.t 23) (.c (.d (.sc (.int .i64 1)))),none,0,0⟩,
 ⟨(some 23),.mov (.t 29),none,0,0⟩] false)))))))
 (.seq
 (.region [⟨(some 30),.fieldAddr 2 (.t 1),none,0,0⟩,
 ⟨(some 31),.load 1 false (.t 30),none,0,0⟩,
 ⟨(some 32),.len (.t 31),none,0,0⟩,
 ⟨(some 33),.callF 69 [(.t 4),(.t 32)],none,0,0⟩] false)
 (.seq
 (.seq
 (.region [⟨(some 34),.fieldAddr 2 (.t 1),none,0,0⟩,
 ⟨(some 35),.load 1 false (.t 34),none,0,0⟩,
 ⟨(some 36),.len (.t 35),none,0,0⟩,
 ⟨(some 37),.mov (.c (.d (.sc (.int .i64 0)))),none,0,0⟩] false)
 (.block 2
 (.loop
 (.seq
 (.region [⟨(some 38),.bin .lss (.t 37) (.t 36),none,0,0⟩] false)
 (.seq
 (.cond (.t 38)
 .skip
 (.exit 2))
 (.seq
 (.block 3
 (.seq
 (.region [⟨(some 39),.indexAddr 7 (.t 35) (.t 37),none,0,0⟩,
 ⟨(some 40),.load 7 true (.t 39),none,0,0⟩,
 ⟨(some 8),.alloc [(.d (.sc (.string ⟨#[]⟩))),(.d (.sc (.int .i64 0))),(.d (.sc (.int .i64 0))),(.own [] .full),(.own [] .full),(.own [] .full),(.own [] .full)],none,0,0⟩,
 ⟨none,.store 7 (.t 8) (.t 40),none,0,0⟩] false)
 (.seq
 (.region [⟨(some 41),.load 7 true (.t 8),none,0,0⟩,
 ⟨(some 42),.callF 71 [(.t 4),(.t 41)],none,0,0⟩,
 ⟨(some 9),.mov (.t 42),none,0,0⟩] false)
 (.seq
 (.region [⟨(some 43),.mov (.t 9),none,0,0⟩,
 ⟨(some 44),.bin .neq (.t 43) (.c (.d (.sc (.int .i64 0)))),none,0,0⟩] false)
 (.cond (.t 44)
 (.seq
 (.region [⟨(some 45),.mov (.t 9),none,0,0⟩,
 ⟨(some 2),.mov (.c (.own [] .full)),none,0,0⟩,
 ⟨(some 3),.mov (.t 45),none,0,0⟩] false)
 .ret)
 .skip)))))
 (.region [⟨(some 46),.bin .add (.t 37) (.c (.d (.sc (.int .i64 1)))),none,0,0⟩,
 ⟨(some 37),.mov (.t 46),none,0,0⟩] false)))))))
 (.seq
 (.seq
 (.region [⟨(some 47),.fieldAddr 0 (.t 4),none,0,0⟩,
 ⟨(some 48),.load 1 false (.t 47),none,0,0⟩,
 ⟨(some 49),.len (.t 48),none,0,0⟩,
 ⟨(some 50),.bin .gtr (.t 49) (.c (.d (.sc (.int .i64 20000)))),none,0,0⟩] false)
 (.cond (.t 50)
 (.seq
 (.region [⟨(some 2),.mov (.c (.own [] .full)),none,0,0⟩,
 ⟨(some 3),.mov (.c (.d (.sc (.int .i64 4)))),none,0,0⟩] false)
 .ret)
 .skip))
 (.seq
 (.region [⟨(some 51),.fieldAddr 0 (.t 4),none,0,0⟩,
 ⟨(some 52),.load 1 false (.t 51),none,0,0⟩,
 ⟨(some 2),.mov (.t 52),none,0,0⟩,
 ⟨(some 3),.mov (.c (.d (.sc (.int .i64 0)))),none,0,0⟩] false)
 .ret)))))))))),false⟩
def t44:AFn:=⟨2,67,[.t 4,.t 5,.t 6,.t 7],
 (.seq
 (.region [⟨(some 4),.mov (.c (.own [] .full)),none,0,0⟩,
 ⟨(some 5),.mov (.c (.d (.sc (.int .i64 0)))),none,0,0⟩,
 ⟨(some 6),.mov (.c (.d (.sc (.int .i64 0)))),none,0,0⟩,
 ⟨(some 7),.mov (.c (.d (.sc (.int .i64 0)))),none,0,0⟩] false)
 (.seq
 (.seq
 (.region [⟨(some 15),.mov (.t 0),none,0,0⟩,
 ⟨(some 16),.callF 61 [(.t 15)],none,0,0⟩,
 ⟨(some 8),.mov (.t 16),none,0,0⟩] false)
 (.seq
 (.region [⟨(some 17),.mov (.t 8),none,0,0⟩,
 ⟨(some 18),.bin .neq (.t 17) (.c (.d (.sc (.int .i64 0)))),none,0,0⟩] false)
 (.cond (.t 18)
 (.seq
 (.region [⟨(some 19),.mov (.t 8),none,0,0⟩,
 ⟨(some 4),.mov (.c (.own [] .full)),none,0,0⟩,
 ⟨(some 5),.mov (.c (.d (.sc (.int .i64 0)))),none,0,0⟩,
 ⟨(some 6),.mov (.c (.d (.sc (.int .i64 0)))),none,0,0⟩,
 ⟨(some 7),.mov (.t 19),none,0,0⟩] false)
 .ret)
 .skip)))
 (.seq
 (.seq
 (.region [⟨(some 20),.mov (.t 1),none,0,0⟩,
 ⟨(some 21),.len (.t 20),none,0,0⟩,
 ⟨(some 22),.bin .gtr (.t 21) (.c (.d (.sc (.int .i64 16)))),none,0,0⟩] false)
 (.cond (.t 22)
 (.seq
 (.region [⟨(some 4),.mov (.c (.own [] .full)),none,0,0⟩,
 ⟨(some 5),.mov (.c (.d (.sc (.int .i64 0)))),none,0,0⟩,
 ⟨(some 6),.mov (.c (.d (.sc (.int .i64 0)))),none,0,0⟩,
 ⟨(some 7),.mov (.c (.d (.sc (.int .i64 4)))),none,0,0⟩] false)
 .ret)
 .skip))
 (.seq
 (.region [⟨(some 23),.mov (.t 0),none,0,0⟩,
 ⟨(some 24),.call 62 [(.t 23)],none,0,0⟩,
 ⟨(some 9),.mov (.t 24),none,0,0⟩] false)
 (.seq
 (.seq
 (.region [⟨(some 25),.mov (.t 1),none,0,0⟩,
 ⟨(some 26),.len (.t 25),none,0,0⟩,
 ⟨(some 27),.mov (.c (.d (.sc (.int .i64 0)))),none,0,0⟩] false)
 (.block 0
 (.loop
 (.seq
 (.region [⟨(some 28),.bin .lss (.t 27) (.t 26),none,0,0⟩] false)
 (.seq
 (.cond (.t 28)
 .skip
 (.exit 0))
 (.seq
 (.block 1
 (.seq
 (.region [⟨(some 29),.indexAddr 2 (.t 25) (.t 27),none,0,0⟩,
 ⟨(some 30),.load 2 true (.t 29),none,0,0⟩,
 ⟨(some 11),.alloc [(.d (.sc (.string ⟨#[]⟩))),(.d (.sc (.int .i64 0)))],none,0,0⟩,
 ⟨none,.store 2 (.t 11) (.t 30),none,0,0⟩] false)
 (.seq
 (.region [⟨(some 31),.fieldAddr 1 (.t 11),none,0,0⟩,
 ⟨(some 32),.load 1 false (.t 31),none,0,0⟩,
 ⟨(some 33),.bin .lss (.t 32) (.c (.d (.sc (.int .i64 0)))),none,0,0⟩,
 ⟨(some 34),.mov (.t 33),none,0,0⟩,
 ⟨(some 35),.fieldAddr 1 (.t 11),(some (34,false)),0,0⟩,
 ⟨(some 36),.load 1 false (.t 35),(some (34,false)),0,0⟩,
 ⟨(some 37),.mov (.t 0),(some (34,false)),0,0⟩,
 ⟨(some 38),.len (.t 37),(some (34,false)),0,0⟩,
 ⟨(some 39),.bin .geq (.t 36) (.t 38),(some (34,false)),0,0⟩,
 ⟨(some 40),.pick (.t 34) (.c (.d (.sc (.bool true)))) (.t 39),none,0,0⟩] false)
 (.cond (.t 40)
 (.seq
 (.region [⟨(some 4),.mov (.c (.own [] .full)),none,0,0⟩,
 ⟨(some 5),.mov (.c (.d (.sc (.int .i64 0)))),none,0,0⟩,
 ⟨(some 6),.mov (.c (.d (.sc (.int .i64 0)))),none,0,0⟩,
 ⟨(some 7),.mov (.c (.d (.sc (.int .i64 2)))),none,0,0⟩] false)
 .ret)
 .skip))))
 (.region [⟨(some 41),.bin .add (.t 27) (.c (.d (.sc (.int .i64 1)))),none,0,0⟩,
 ⟨(some 27),.mov (.t 41),none,0,0⟩] false)))))))
 (.seq
 (.seq
 (.region [⟨(some 42),.mov (.t 1),none,0,0⟩,
 ⟨(some 43),.len (.t 42),none,0,0⟩,
 ⟨(some 44),.mov (.c (.d (.sc (.int .i64 0)))),none,0,0⟩] false)
 (.block 2
 (.loop
 (.seq
 (.region [⟨(some 45),.bin .lss (.t 44) (.t 43),none,0,0⟩] false)
 (.seq
 (.cond (.t 45)
 .skip
 (.exit 2))
 (.seq
 (.block 3
 (.seq
 (.region [⟨(some 46),.indexAddr 2 (.t 42) (.t 44),none,0,0⟩,
 ⟨(some 47),.load 2 true (.t 46),none,0,0⟩,
 ⟨(some 13),.alloc [(.d (.sc (.string ⟨#[]⟩))),(.d (.sc (.int .i64 0)))],none,0,0⟩,
 ⟨none,.store 2 (.t 13) (.t 47),none,0,0⟩] false)
 (.seq
 (.region [⟨(some 48),.mov (.t 9),none,0,0⟩,
 ⟨(some 49),.fieldAddr 1 (.t 13),none,0,0⟩,
 ⟨(some 50),.load 1 false (.t 49),none,0,0⟩,
 ⟨(some 51),.indexAddr 2 (.t 48) (.t 50),none,0,0⟩,
 ⟨(some 52),.fieldAddr 0 (.t 51),none,0,0⟩,
 ⟨(some 53),.load 1 false (.t 52),none,0,0⟩,
 ⟨(some 54),.bin .gtr (.t 53) (.c (.d (.sc (.int .i64 256)))),none,0,0⟩] false)
 (.cond (.t 54)
 (.seq
 (.region [⟨(some 4),.mov (.c (.own [] .full)),none,0,0⟩,
 ⟨(some 5),.mov (.c (.d (.sc (.int .i64 0)))),none,0,0⟩,
 ⟨(some 6),.mov (.c (.d (.sc (.int .i64 0)))),none,0,0⟩,
 ⟨(some 7),.mov (.c (.d (.sc (.int .i64 16)))),none,0,0⟩] false)
 .ret)
 .skip))))
 (.region [⟨(some 55),.bin .add (.t 44) (.c (.d (.sc (.int .i64 1)))),none,0,0⟩,
 ⟨(some 44),.mov (.t 55),none,0,0⟩] false)))))))
 (.seq
 (.region [⟨(some 57),.mov (.t 9),none,0,0⟩,
 ⟨(some 58),.mov (.t 1),none,0,0⟩,
 ⟨(some 59),.call 72 [(.t 57),(.t 58)],none,0,0⟩,
 ⟨(some 56),.mov (.t 59),none,0,0⟩,
 ⟨(some 60),.extract (.t 56) 0,none,0,0⟩,
 ⟨(some 61),.extract (.t 56) 1,none,0,0⟩,
 ⟨(some 14),.alloc [(.d (.sc (.int .i64 0))),(.d (.sc (.int .i64 0)))],none,0,0⟩,
 ⟨(some 4),.mov (.t 60),none,0,0⟩,
 ⟨none,.store 2 (.t 14) (.t 61),none,0,0⟩] false)
 (.seq
 (.region [⟨(some 62),.mov (.t 4),none,0,0⟩,
 ⟨(some 63),.fieldAddr 0 (.t 14),none,0,0⟩,
 ⟨(some 64),.load 1 false (.t 63),none,2,0⟩,
 ⟨(some 65),.fieldAddr 1 (.t 14),none,0,0⟩,
 ⟨(some 66),.load 1 false (.t 65),none,8,0⟩,
 ⟨(some 4),.mov (.t 62),none,1,0⟩,
 ⟨(some 5),.mov (.t 64),none,39,0⟩,
 ⟨(some 6),.mov (.t 66),none,127,0⟩,
 ⟨(some 7),.mov (.c (.d (.sc (.int .i64 0)))),none,255,0⟩] true)
 .ret)))))))),false⟩
def t46:AFn:=⟨2,15,[.t 4],
 (.seq
 (.region [⟨(some 4),.mov (.c (.d (.sc (.int .i64 0)))),none,0,0⟩] false)
 (.seq
 (.seq
 (.region [⟨(some 6),.mov (.t 1),none,0,0⟩,
 ⟨(some 7),.callF 74 [(.t 6)],none,0,0⟩,
 ⟨(some 5),.mov (.t 7),none,0,0⟩] false)
 (.seq
 (.region [⟨(some 8),.mov (.t 5),none,0,0⟩,
 ⟨(some 9),.bin .neq (.t 8) (.c (.d (.sc (.int .i64 0)))),none,0,0⟩] false)
 (.cond (.t 9)
 (.seq
 (.region [⟨(some 10),.mov (.t 5),none,0,0⟩,
 ⟨(some 4),.mov (.t 10),none,0,0⟩] false)
 .ret)
 .skip)))
 (.seq
 (.seq
 (.region [⟨(some 11),.mov (.t 0),none,0,0⟩,
 ⟨(some 12),.mov (.t 1),none,0,0⟩,
 ⟨(some 13),.callF 75 [(.t 11),(.t 12)],none,0,0⟩,
 ⟨(some 14),.un .not (.t 13),none,0,0⟩] false)
 (.cond (.t 14)
 (.seq
 (.region [⟨(some 4),.mov (.c (.d (.sc (.int .i64 8)))),none,0,0⟩] false)
 .ret)
 .skip))
 (.seq
 (.region [⟨(some 4),.mov (.c (.d (.sc (.int .i64 0)))),none,0,0⟩] false)
 .ret)))),false⟩
def t47:AFn:=⟨2,26,[.t 4],
 (.seq
 (.region [⟨(some 4),.mov (.c (.d (.sc (.int .i64 0)))),none,0,0⟩] false)
 (.seq
 (.region [⟨(some 8),.mov (.t 0),none,0,0⟩,
 ⟨(some 5),.mov (.c (.d (.sc (.int .i64 0)))),none,0,0⟩,
 ⟨(some 6),.mov (.t 8),none,0,0⟩] false)
 (.seq
 (.block 0
 (.loop
 (.seq
 (.seq
 (.region [⟨(some 9),.mov (.t 5),none,0,0⟩,
 ⟨(some 10),.mov (.t 6),none,0,0⟩,
 ⟨(some 11),.bin .lss (.t 9) (.t 10),none,0,0⟩] false)
 (.cond (.t 11)
 .skip
 (.exit 0)))
 (.block 1
 (.seq
 (.region [⟨(some 12),.mov (.t 5),none,0,0⟩,
 ⟨(some 13),.mov (.t 6),none,0,0⟩,
 ⟨(some 14),.bin .add (.t 12) (.t 13),none,0,0⟩,
 ⟨(some 15),.conv .u64 (.t 14),none,0,0⟩,
 ⟨(some 16),.bin .shr (.t 15) (.c (.d (.sc (.int .u64 1)))),none,0,0⟩,
 ⟨(some 17),.conv .i64 (.t 16),none,0,0⟩,
 ⟨(some 7),.mov (.t 17),none,0,0⟩] false)
 (.seq
 (.region [⟨(some 18),.mov (.t 1),none,0,0⟩,
 ⟨(some 19),.mov (.t 7),none,0,0⟩,
 ⟨(some 20),.callv (.t 18) [(.t 19)],none,0,0⟩,
 ⟨(some 21),.un .not (.t 20),none,0,0⟩] false)
 (.cond (.t 21)
 (.region [⟨(some 22),.mov (.t 7),none,0,0⟩,
 ⟨(some 23),.bin .add (.t 22) (.c (.d (.sc (.int .i64 1)))),none,0,0⟩,
 ⟨(some 5),.mov (.t 23),none,0,0⟩] false)
 (.region [⟨(some 24),.mov (.t 7),none,0,0⟩,
 ⟨(some 6),.mov (.t 24),none,0,0⟩] false))))))))
 (.seq
 (.region [⟨(some 25),.mov (.t 5),none,0,0⟩,
 ⟨(some 4),.mov (.t 25),none,0,0⟩] false)
 .ret)))),true⟩
def t48:AFn:=⟨3,12,[.t 4],
 (.seq
 (.region [⟨(some 4),.mov (.c (.d (.sc (.bool false)))),none,0,0⟩] false)
 (.seq
 (.region [⟨(some 5),.load 1 false (.t 1),none,0,0⟩,
 ⟨(some 6),.mov (.t 0),none,0,0⟩,
 ⟨(some 7),.indexAddr 2 (.t 5) (.t 6),none,3,0⟩,
 ⟨(some 8),.fieldAddr 0 (.t 7),none,7,0⟩,
 ⟨(some 9),.load 1 false (.t 8),none,15,0⟩,
 ⟨(some 10),.load 1 false (.t 2),none,0,0⟩,
 ⟨(some 11),.bin .gtr (.t 9) (.t 10),none,63,0⟩,
 ⟨(some 4),.mov (.t 11),none,127,0⟩] true)
 .ret)),true⟩
def t61:AFn:=⟨1,29,[.t 2],
 (.seq
 (.region [⟨(some 2),.mov (.c (.d (.sc (.int .i64 0)))),none,0,0⟩] false)
 (.seq
 (.seq
 (.region [⟨(some 6),.mov (.t 0),none,0,0⟩,
 ⟨(some 7),.len (.t 6),none,0,0⟩,
 ⟨(some 8),.bin .gtr (.t 7) (.c (.d (.sc (.int .i64 32)))),none,0,0⟩] false)
 (.cond (.t 8)
 (.seq
 (.region [⟨(some 2),.mov (.c (.d (.sc (.int .i64 8)))),none,0,0⟩] false)
 .ret)
 .skip))
 (.seq
 (.seq
 (.region [⟨(some 9),.mov (.t 0),none,0,0⟩,
 ⟨(some 10),.len (.t 9),none,0,0⟩,
 ⟨(some 11),.mov (.c (.d (.sc (.int .i64 0)))),none,0,0⟩] false)
 (.block 0
 (.loop
 (.seq
 (.region [⟨(some 12),.bin .lss (.t 11) (.t 10),none,0,0⟩] false)
 (.seq
 (.cond (.t 12)
 .skip
 (.exit 0))
 (.seq
 (.block 1
 (.seq
 (.region [⟨(some 13),.mov (.t 11),none,0,0⟩,
 ⟨(some 3),.mov (.t 13),none,0,0⟩] false)
 (.seq
 (.region [⟨(some 14),.mov (.t 0),none,0,0⟩,
 ⟨(some 15),.mov (.t 3),none,0,0⟩,
 ⟨(some 16),.callF 85 [(.t 14),(.t 15)],none,0,0⟩,
 ⟨(some 17),.un .not (.t 16),none,0,0⟩] false)
 (.cond (.t 17)
 (.seq
 (.region [⟨(some 2),.mov (.c (.d (.sc (.int .i64 8)))),none,0,0⟩] false)
 .ret)
 .skip))))
 (.region [⟨(some 18),.bin .add (.t 11) (.c (.d (.sc (.int .i64 1)))),none,0,0⟩,
 ⟨(some 11),.mov (.t 18),none,0,0⟩] false)))))))
 (.seq
 (.seq
 (.region [⟨(some 19),.mov (.t 0),none,0,0⟩,
 ⟨(some 20),.call 86 [(.t 19)],none,0,0⟩,
 ⟨(some 21),.len (.t 20),none,0,0⟩,
 ⟨(some 22),.mov (.c (.d (.sc (.int .i64 0)))),none,0,0⟩] false)
 (.block 2
 (.loop
 (.seq
 (.region [⟨(some 23),.bin .lss (.t 22) (.t 21),none,0,0⟩] false)
 (.seq
 (.cond (.t 23)
 .skip
 (.exit 2))
 (.seq
 (.block 3
 (.seq
 (.region [⟨(some 24),.indexAddr 1 (.t 20) (.t 22),none,0,0⟩,
 ⟨(some 25),.load 1 false (.t 24),none,0,0⟩,
 ⟨(some 5),.mov (.t 25),none,0,0⟩] false)
 (.seq
 (.region [⟨(some 26),.mov (.t 5),none,0,0⟩,
 ⟨(some 27),.bin .gtr (.t 26) (.c (.d (.sc (.int .i64 5000)))),none,0,0⟩] false)
 (.cond (.t 27)
 (.seq
 (.region [⟨(some 2),.mov (.c (.d (.sc (.int .i64 8)))),none,0,0⟩] false)
 .ret)
 .skip))))
 (.region [⟨(some 28),.bin .add (.t 22) (.c (.d (.sc (.int .i64 1)))),none,0,0⟩,
 ⟨(some 22),.mov (.t 28),none,0,0⟩] false)))))))
 (.seq
 (.region [⟨(some 2),.mov (.c (.d (.sc (.int .i64 0)))),none,0,0⟩] false)
 .ret))))),false⟩
def t62:AFn:=⟨1,77,[.t 2],
 (.seq
 (.region [⟨(some 2),.mov (.c (.own [] .full)),none,0,0⟩] false)
 (.seq
 (.region [⟨(some 7),.mov (.t 0),none,0,0⟩,
 ⟨(some 8),.len (.t 7),none,0,0⟩,
 ⟨(some 9),.makeSlice 2 16 [(.sc (.int .i64 0)),(.sc (.int .i64 0))] (.t 8) (.t 8),none,0,1⟩,
 ⟨(some 3),.mov (.t 9),none,0,0⟩] false)
 (.seq
 (.seq
 (.region [⟨(some 10),.mov (.t 0),none,0,0⟩,
 ⟨(some 11),.len (.t 10),none,0,0⟩,
 ⟨(some 12),.mov (.c (.d (.sc (.int .i64 0)))),none,0,0⟩] false)
 (.block 0
 (.loop
 (.seq
 (.region [⟨(some 13),.bin .lss (.t 12) (.t 11),none,0,0⟩] false)
 (.seq
 (.cond (.t 13)
 .skip
 (.exit 0))
 (.seq
 (.block 1
 (.seq
 (.region [⟨(some 14),.mov (.t 12),none,0,0⟩,
 ⟨(some 15),.indexAddr 4 (.t 10) (.t 12),none,0,0⟩,
 ⟨(some 16),.load 4 true (.t 15),none,0,0⟩,
 ⟨(some 5),.alloc [(.d (.sc (.int .u8 0))),(.d (.sc (.int .i64 0))),(.d (.sc (.int .i64 0))),(.own [] .full)],none,0,0⟩,
 ⟨(some 4),.mov (.t 14),none,0,0⟩,
 ⟨none,.store 4 (.t 5) (.t 16),none,0,0⟩] false)
 (.seq
 (.region [⟨(some 17),.fieldAddr 0 (.t 5),none,0,0⟩,
 ⟨(some 18),.load 1 false (.t 17),none,0,0⟩] false)
 (.block 2
 (.seq
 (.region [⟨(some 20),.bin .eql (.t 18) (.c (.d (.sc (.int .u8 1)))),none,0,0⟩,
 ⟨(some 19),.mov (.t 20),none,0,0⟩] false)
 (.cond (.t 19)
 (.region [⟨(some 21),.mov (.t 3),none,0,0⟩,
 ⟨(some 22),.mov (.t 4),none,0,0⟩,
 ⟨(some 23),.build [(.d (.sc (.int .i64 0))),(.d (.sc (.int .i64 0)))] [(0,1,(.c (.d (.sc (.int .i64 1))))),(1,1,(.c (.d (.sc (.int .i64 1)))))],none,0,0⟩,
 ⟨(some 24),.indexAddr 2 (.t 21) (.t 22),none,0,0⟩,
 ⟨none,.store 2 (.t 24) (.t 23),none,0,0⟩] false)
 (.seq
 (.seq
 (.region [⟨(some 26),.bin .eql (.t 18) (.c (.d (.sc (.int .u8 2)))),none,0,0⟩,
 ⟨(some 25),.mov (.t 26),none,0,0⟩] false)
 (.cond (.t 25)
 .skip
 (.region [⟨(some 27),.bin .eql (.t 18) (.c (.d (.sc (.int .u8 4)))),none,0,0⟩,
 ⟨(some 25),.mov (.t 27),none,0,0⟩] false)))
 (.cond (.t 25)
 (.region [⟨(some 28),.mov (.t 3),none,0,0⟩,
 ⟨(some 29),.mov (.t 4),none,0,0⟩,
 ⟨(some 30),.build [(.d (.sc (.int .i64 0))),(.d (.sc (.int .i64 0)))] [(0,1,(.c (.d (.sc (.int .i64 8))))),(1,1,(.c (.d (.sc (.int .i64 8)))))],none,0,0⟩,
 ⟨(some 31),.indexAddr 2 (.t 28) (.t 29),none,0,0⟩,
 ⟨none,.store 2 (.t 31) (.t 30),none,0,0⟩] false)
 (.seq
 (.region [⟨(some 33),.bin .eql (.t 18) (.c (.d (.sc (.int .u8 3)))),none,0,0⟩,
 ⟨(some 32),.mov (.t 33),none,0,0⟩] false)
 (.cond (.t 32)
 (.region [⟨(some 34),.mov (.t 3),none,0,0⟩,
 ⟨(some 35),.mov (.t 4),none,0,0⟩,
 ⟨(some 36),.build [(.d (.sc (.int .i64 0))),(.d (.sc (.int .i64 0)))] [(0,1,(.c (.d (.sc (.int .i64 16))))),(1,1,(.c (.d (.sc (.int .i64 8)))))],none,0,0⟩,
 ⟨(some 37),.indexAddr 2 (.t 34) (.t 35),none,0,0⟩,
 ⟨none,.store 2 (.t 37) (.t 36),none,0,0⟩] false)
 (.seq
 (.region [⟨(some 39),.bin .eql (.t 18) (.c (.d (.sc (.int .u8 7)))),none,0,0⟩,
 ⟨(some 38),.mov (.t 39),none,0,0⟩] false)
 (.cond (.t 38)
 (.region [⟨(some 40),.mov (.t 3),none,0,0⟩,
 ⟨(some 41),.mov (.t 4),none,0,0⟩,
 ⟨(some 42),.build [(.d (.sc (.int .i64 0))),(.d (.sc (.int .i64 0)))] [(0,1,(.c (.d (.sc (.int .i64 24))))),(1,1,(.c (.d (.sc (.int .i64 8)))))],none,0,0⟩,
 ⟨(some 43),.indexAddr 2 (.t 40) (.t 41),none,0,0⟩,
 ⟨none,.store 2 (.t 43) (.t 42),none,0,0⟩] false)
 (.seq
 (.region [⟨(some 45),.bin .eql (.t 18) (.c (.d (.sc (.int .u8 6)))),none,0,0⟩,
 ⟨(some 44),.mov (.t 45),none,0,0⟩] false)
 (.cond (.t 44)
 (.seq
 (.region [⟨(some 46),.mov (.t 3),none,0,0⟩,
 ⟨(some 47),.fieldAddr 1 (.t 5),none,0,0⟩,
 ⟨(some 48),.load 1 false (.t 47),none,0,0⟩,
 ⟨(some 49),.indexAddr 2 (.t 46) (.t 48),none,0,0⟩,
 ⟨(some 50),.load 2 true (.t 49),none,0,0⟩,
 ⟨(some 6),.alloc [(.d (.sc (.int .i64 0))),(.d (.sc (.int .i64 0)))],none,0,0⟩,
 ⟨none,.store 2 (.t 6) (.t 50),none,0,0⟩] false)
 (.region [⟨(some 51),.mov (.t 3),none,0,0⟩,
 ⟨(some 52),.mov (.t 4),none,0,0⟩,
 ⟨(some 53),.fieldAddr 2 (.t 5),none,0,0⟩,
 ⟨(some 54),.load 1 false (.t 53),none,0,0⟩,
 ⟨(some 55),.fieldAddr 0 (.t 6),none,0,0⟩,
 ⟨(some 56),.load 1 false (.t 55),none,0,0⟩,
 ⟨(some 57),.bin .mul (.t 54) (.t 56),none,0,0⟩,
 ⟨(some 58),.mini (.c (.d (.sc (.int .i64 1048576)))) (.t 57),none,0,0⟩,
 ⟨(some 59),.fieldAddr 1 (.t 6),none,0,0⟩,
 ⟨(some 60),.load 1 false (.t 59),none,0,0⟩,
 ⟨(some 61),.build [(.d (.sc (.int .i64 0))),(.d (.sc (.int .i64 0)))] [(0,1,(.t 58)),(1,1,(.t 60))],none,0,0⟩,
 ⟨(some 62),.indexAddr 2 (.t 51) (.t 52),none,0,0⟩,
 ⟨none,.store 2 (.t 62) (.t 61),none,0,0⟩] false))
 (.seq
 (.region [⟨(some 64),.bin .eql (.t 18) (.c (.d (.sc (.int .u8 5)))),none,0,0⟩,
 ⟨(some 63),.mov (.t 64),none,0,0⟩] false)
 (.cond (.t 63)
 (.region [⟨(some 66),.mov (.t 3),none,0,0⟩,
 ⟨(some 67),.mov (.t 4),none,0,0⟩,
 ⟨(some 68),.mov (.t 3),none,0,0⟩,
 ⟨(some 69),.fieldAddr 3 (.t 5),none,0,0⟩,
 ⟨(some 70),.load 1 false (.t 69),none,0,0⟩,
 ⟨(some 71),.call 72 [(.t 68),(.t 70)],none,0,0⟩,
 ⟨(some 65),.mov (.t 71),none,0,0⟩,
 ⟨(some 72),.extract (.t 65) 0,none,0,0⟩,
 ⟨(some 73),.extract (.t 65) 1,none,0,0⟩,
 ⟨(some 74),.indexAddr 2 (.t 66) (.t 67),none,0,0⟩,
 ⟨none,.store 2 (.t 74) (.t 73),none,0,0⟩] false)
 .skip))))))))))))))))
 (.region [⟨(some 75),.bin .add (.t 12) (.c (.d (.sc (.int .i64 1)))),none,0,0⟩,
 ⟨(some 12),.mov (.t 75),none,0,0⟩] false)))))))
 (.seq
 (.region [⟨(some 76),.mov (.t 3),none,0,0⟩,
 ⟨(some 2),.mov (.t 76),none,0,0⟩] false)
 .ret)))),false⟩
def t63:AFn:=⟨2,27,[.t 4],
 (.seq
 (.region [⟨(some 4),.mov (.c (.own [] .full)),none,0,65540⟩] false)
 (.seq
 (.seq
 (.region [⟨(some 5),.mov (.t 1),none,0,0⟩,
 ⟨(some 6),.bin .lss (.t 5) (.c (.d (.sc (.int .i64 0)))),none,0,0⟩] false)
 (.cond (.t 6)
 (.region [⟨(some 7),.bad,none,0,0⟩,
 ⟨none,.bad,none,0,0⟩] false)
 .skip))
 (.seq
 (.seq
 (.region [⟨(some 8),.mov (.t 1),none,0,0⟩,
 ⟨(some 9),.mov (.t 0),none,0,0⟩,
 ⟨(some 10),.capF (.t 9),none,0,0⟩,
 ⟨(some 11),.mov (.t 0),none,0,0⟩,
 ⟨(some 12),.len (.t 11),none,0,0⟩,
 ⟨(some 13),.bin .sub (.t 10) (.t 12),none,0,0⟩,
 ⟨(some 14),.bin .sub (.t 8) (.t 13),none,0,0⟩,
 ⟨(some 1),.mov (.t 14),none,0,0⟩] false)
 (.seq
 (.region [⟨(some 15),.mov (.t 1),none,0,0⟩,
 ⟨(some 16),.bin .gtr (.t 15) (.c (.d (.sc (.int .i64 0)))),none,0,0⟩] false)
 (.cond (.t 16)
 (.region [⟨(some 17),.mov (.t 0),none,0,0⟩,
 ⟨(some 18),.mov (.t 0),none,0,0⟩,
 ⟨(some 19),.capF (.t 18),none,0,0⟩,
 ⟨(some 20),.slice 1 (.t 17) none (some (.t 19)) none,none,0,0⟩,
 ⟨(some 21),.mov (.t 1),none,0,0⟩,
 ⟨(some 22),.appendZ 1 1 [(.sc (.int .u8 0))] (.t 20) (.t 21),none,0,1⟩,
 ⟨(some 23),.mov (.t 0),none,0,0⟩,
 ⟨(some 24),.len (.t 23),none,0,0⟩,
 ⟨(some 25),.slice 1 (.t 22) none (some (.t 24)) none,none,0,0⟩,
 ⟨(some 0),.mov (.t 25),none,0,0⟩] false)
 .skip)))
 (.seq
 (.region [⟨(some 26),.mov (.t 0),none,0,0⟩,
 ⟨(some 4),.mov (.t 26),none,0,65540⟩] false)
 .ret)))),true⟩
def t64:AFn:=⟨1,13,[.t 2],
 (.seq
 (.region [⟨(some 1),.box (.t 0),none,0,0⟩,
 ⟨(some 2),.mov (.c (.d (.sc (.int .i64 0)))),none,0,0⟩] false)
 (.seq
 (.seq
 (.region [⟨(some 3),.fieldAddr 0 (.t 1),none,0,0⟩,
 ⟨(some 4),.load 1 false (.t 3),none,0,0⟩,
 ⟨(some 5),.callF 87 [(.t 4)],none,0,0⟩,
 ⟨(some 6),.un .not (.t 5),none,0,0⟩,
 ⟨(some 7),.mov (.t 6),none,0,0⟩,
 ⟨(some 8),.fieldAddr 1 (.t 1),(some (7,false)),0,0⟩,
 ⟨(some 9),.load 1 false (.t 8),(some (7,false)),0,0⟩,
 ⟨(some 10),.len (.t 9),(some (7,false)),0,0⟩,
 ⟨(some 11),.bin .gtr (.t 10) (.c (.d (.sc (.int .i64 20000)))),(some (7,false)),0,0⟩,
 ⟨(some 12),.pick (.t 7) (.c (.d (.sc (.bool true)))) (.t 11),none,0,0⟩] false)
 (.cond (.t 12)
 (.seq
 (.region [⟨(some 2),.mov (.c (.d (.sc (.int .i64 8)))),none,0,0⟩] false)
 .ret)
 .skip))
 (.seq
 (.region [⟨(some 2),.mov (.c (.d (.sc (.int .i64 0)))),none,0,0⟩] false)
 .ret))),false⟩
def t65:AFn:=⟨3,37,[.t 6,.t 7],
 (.seq
 (.region [⟨(some 3),.box (.t 0),none,0,0⟩,
 ⟨(some 6),.mov (.c (.d (.sc (.int .i64 0)))),none,0,0⟩,
 ⟨(some 7),.mov (.c (.d (.sc (.bool false)))),none,0,0⟩] false)
 (.seq
 (.seq
 (.region [⟨(some 9),.mov (.t 1),none,0,0⟩,
 ⟨(some 10),.fieldAddr 0 (.t 3),none,0,0⟩,
 ⟨(some 11),.load 1 false (.t 10),none,0,0⟩,
 ⟨(some 12),.bin .lss (.t 9) (.t 11),none,0,0⟩,
 ⟨(some 13),.mov (.t 12),none,0,0⟩,
 ⟨(some 14),.mov (.t 1),(some (13,false)),0,0⟩,
 ⟨(some 15),.fieldAddr 0 (.t 3),(some (13,false)),0,0⟩,
 ⟨(some 16),.load 1 false (.t 15),(some (13,false)),0,0⟩,
 ⟨(some 17),.bin .sub (.t 14) (.t 16),(some (13,false)),0,0⟩,
 ⟨(some 18),.fieldAddr 1 (.t 3),(some (13,false)),0,0⟩,
 ⟨(some 19),.load 1 false (.t 18),(some (13,false)),0,0⟩,
 ⟨(some 20),.len (.t 19),(some (13,false)),0,0⟩,
 ⟨(some 21),.conv .u64 (.t 20),(some (13,false)),0,0⟩,
 ⟨(some 22),.bin .gtr (.t 17) (.t 21),(some (13,false)),0,0⟩,
 ⟨(some 23),.pick (.t 13) (.c (.d (.sc (.bool true)))) (.t 22),none,0,0⟩] false)
 (.cond (.t 23)
 (.seq
 (.region [⟨(some 6),.mov (.c (.d (.sc (.int .i64 0)))),none,0,0⟩,
 ⟨(some 7),.mov (.c (.d (.sc (.bool false)))),none,0,0⟩] false)
 .ret)
 .skip))
 (.seq
 (.region [⟨(some 24),.mov (.t 1),none,0,0⟩,
 ⟨(some 25),.fieldAddr 0 (.t 3),none,0,0⟩,
 ⟨(some 26),.load 1 false (.t 25),none,0,0⟩,
 ⟨(some 27),.bin .sub (.t 24) (.t 26),none,0,0⟩,
 ⟨(some 28),.conv .i64 (.t 27),none,0,0⟩,
 ⟨(some 8),.mov (.t 28),none,0,0⟩] false)
 (.seq
 (.region [⟨(some 29),.mov (.t 8),none,0,0⟩,
 ⟨(some 30),.mov (.t 2),none,0,0⟩,
 ⟨(some 31),.fieldAddr 1 (.t 3),none,0,0⟩,
 ⟨(some 32),.load 1 false (.t 31),none,4,0⟩,
 ⟨(some 33),.len (.t 32),none,12,0⟩,
 ⟨(some 34),.mov (.t 8),none,0,0⟩,
 ⟨(some 35),.bin .sub (.t 33) (.t 34),none,60,0⟩,
 ⟨(some 36),.bin .leq (.t 30) (.t 35),none,126,0⟩,
 ⟨(some 6),.mov (.t 29),none,1,0⟩,
 ⟨(some 7),.mov (.t 36),none,511,0⟩] true)
 .ret)))),false⟩
def t66:AFn:=⟨3,32,[.t 6,.t 7],
 (.seq
 (.region [⟨(some 3),.box (.t 0),none,0,0⟩,
 ⟨(some 6),.mov (.c (.d (.sc (.int .i64 0)))),none,0,0⟩,
 ⟨(some 7),.mov (.c (.d (.sc (.int .i64 0)))),none,0,0⟩] false)
 (.seq
 (.seq
 (.region [⟨(some 11),.load 2 true (.t 3),none,0,0⟩,
 ⟨(some 12),.callF 64 [(.t 11)],none,0,0⟩,
 ⟨(some 8),.mov (.t 12),none,0,0⟩] false)
 (.seq
 (.region [⟨(some 13),.mov (.t 8),none,0,0⟩,
 ⟨(some 14),.bin .neq (.t 13) (.c (.d (.sc (.int .i64 0)))),none,0,0⟩] false)
 (.cond (.t 14)
 (.seq
 (.region [⟨(some 15),.mov (.t 8),none,0,0⟩,
 ⟨(some 6),.mov (.c (.d (.sc (.int .i64 0)))),none,0,0⟩,
 ⟨(some 7),.mov (.t 15),none,0,0⟩] false)
 .ret)
 .skip)))
 (.seq
 (.seq
 (.region [⟨(some 16),.mov (.t 2),none,0,0⟩,
 ⟨(some 17),.bin .neq (.t 16) (.c (.d (.sc (.int .i64 1)))),none,0,0⟩,
 ⟨(some 18),.mov (.t 17),none,0,0⟩,
 ⟨(some 19),.mov (.t 2),(some (18,true)),0,0⟩,
 ⟨(some 20),.bin .neq (.t 19) (.c (.d (.sc (.int .i64 8)))),(some (18,true)),0,0⟩,
 ⟨(some 21),.pick (.t 18) (.t 20) (.c (.d (.sc (.bool false)))),none,0,0⟩] false)
 (.cond (.t 21)
 (.seq
 (.region [⟨(some 6),.mov (.c (.d (.sc (.int .i64 0)))),none,0,0⟩,
 ⟨(some 7),.mov (.c (.d (.sc (.int .i64 2)))),none,0,0⟩] false)
 .ret)
 .skip))
 (.seq
 (.region [⟨(some 23),.load 2 true (.t 3),none,0,0⟩,
 ⟨(some 24),.mov (.t 1),none,0,0⟩,
 ⟨(some 25),.mov (.t 2),none,0,0⟩,
 ⟨(some 26),.callF 65 [(.t 23),(.t 24),(.t 25)],none,0,0⟩,
 ⟨(some 22),.mov (.t 26),none,0,0⟩,
 ⟨(some 27),.extract (.t 22) 0,none,0,0⟩,
 ⟨(some 28),.extract (.t 22) 1,none,0,0⟩,
 ⟨(some 9),.mov (.t 27),none,0,0⟩,
 ⟨(some 10),.mov (.t 28),none,0,0⟩] false)
 (.seq
 (.seq
 (.region [⟨(some 29),.mov (.t 10),none,0,0⟩,
 ⟨(some 30),.un .not (.t 29),none,0,0⟩] false)
 (.cond (.t 30)
 (.seq
 (.region [⟨(some 6),.mov (.c (.d (.sc (.int .i64 0)))),none,0,0⟩,
 ⟨(some 7),.mov (.c (.d (.sc (.int .i64 16)))),none,0,0⟩] false)
 .ret)
 .skip))
 (.seq
 (.region [⟨(some 31),.mov (.t 9),none,0,0⟩,
 ⟨(some 6),.mov (.t 31),none,0,0⟩,
 ⟨(some 7),.mov (.c (.d (.sc (.int .i64 0)))),none,0,0⟩] false)
 .ret)))))),false⟩
def t67:AFn:=⟨1,85,[.t 2],
 (.seq
 (.region [⟨(some 1),.box (.t 0),none,0,0⟩,
 ⟨(some 2),.mov (.c (.d (.sc (.bool false)))),none,0,0⟩] false)
 (.seq
 (.seq
 (.region [⟨(some 12),.fieldAddr 0 (.t 1),none,0,0⟩,
 ⟨(some 13),.load 1 false (.t 12),none,0,0⟩,
 ⟨(some 14),.callF 61 [(.t 13)],none,0,0⟩,
 ⟨(some 15),.bin .neq (.t 14) (.c (.d (.sc (.int .i64 0)))),none,0,0⟩,
 ⟨(some 16),.mov (.t 15),none,0,0⟩,
 ⟨(some 17),.fieldAddr 1 (.t 1),(some (16,false)),0,0⟩,
 ⟨(some 18),.load 1 false (.t 17),(some (16,false)),0,0⟩,
 ⟨(some 19),.len (.t 18),(some (16,false)),0,0⟩,
 ⟨(some 20),.bin .gtr (.t 19) (.c (.d (.sc (.int .i64 32)))),(some (16,false)),0,0⟩,
 ⟨(some 21),.pick (.t 16) (.c (.d (.sc (.bool true)))) (.t 20),none,0,0⟩,
 ⟨(some 22),.mov (.t 21),none,0,0⟩,
 ⟨(some 23),.fieldAddr 2 (.t 1),(some (22,false)),0,0⟩,
 ⟨(some 24),.load 1 false (.t 23),(some (22,false)),0,0⟩,
 ⟨(some 25),.len (.t 24),(some (22,false)),0,0⟩,
 ⟨(some 26),.bin .eql (.t 25) (.c (.d (.sc (.int .i64 0)))),(some (22,false)),0,0⟩,
 ⟨(some 27),.pick (.t 22) (.c (.d (.sc (.bool true)))) (.t 26),none,0,0⟩,
 ⟨(some 28),.mov (.t 27),none,0,0⟩,
 ⟨(some 29),.fieldAddr 2 (.t 1),(some (28,false)),0,0⟩,
 ⟨(some 30),.load 1 false (.t 29),(some (28,false)),0,0⟩,
 ⟨(some 31),.len (.t 30),(some (28,false)),0,0⟩,
 ⟨(some 32),.bin .gtr (.t 31) (.c (.d (.sc (.int .i64 32)))),(some (28,false)),0,0⟩,
 ⟨(some 33),.pick (.t 28) (.c (.d (.sc (.bool true)))) (.t 32),none,0,0⟩] false)
 (.cond (.t 33)
 (.seq
 (.region [⟨(some 2),.mov (.c (.d (.sc (.bool false)))),none,0,0⟩] false)
 .ret)
 .skip))
 (.seq
 (.seq
 (.region [⟨(some 34),.fieldAddr 0 (.t 1),none,0,0⟩,
 ⟨(some 35),.load 1 false (.t 34),none,0,0⟩,
 ⟨(some 36),.len (.t 35),none,0,0⟩,
 ⟨(some 37),.mov (.c (.d (.sc (.int .i64 0)))),none,0,0⟩] false)
 (.block 0
 (.loop
 (.seq
 (.region [⟨(some 38),.bin .lss (.t 37) (.t 36),none,0,0⟩] false)
 (.seq
 (.cond (.t 38)
 .skip
 (.exit 0))
 (.seq
 (.block 1
 (.seq
 (.region [⟨(some 39),.mov (.t 37),none,0,0⟩,
 ⟨(some 3),.mov (.t 39),none,0,0⟩] false)
 (.seq
 (.region [⟨(some 41),.fieldAddr 0 (.t 1),none,0,0⟩,
 ⟨(some 42),.load 1 false (.t 41),none,0,0⟩,
 ⟨(some 43),.mov (.t 3),none,0,0⟩,
 ⟨(some 44),.callF 13 [(.t 42),(.t 43)],none,0,0⟩,
 ⟨(some 40),.mov (.t 44),none,0,0⟩,
 ⟨(some 45),.extract (.t 40) 0,none,0,0⟩,
 ⟨(some 46),.extract (.t 40) 1,none,0,0⟩,
 ⟨(some 47),.extract (.t 40) 2,none,0,0⟩,
 ⟨(some 4),.mov (.t 45),none,0,0⟩,
 ⟨(some 5),.mov (.t 46),none,0,0⟩,
 ⟨(some 6),.mov (.t 47),none,0,0⟩] false)
 (.seq
 (.region [⟨(some 48),.mov (.t 6),none,0,0⟩,
 ⟨(some 49),.bin .neq (.t 48) (.c (.d (.sc (.int .i64 0)))),none,0,0⟩] false)
 (.cond (.t 49)
 (.seq
 (.region [⟨(some 2),.mov (.c (.d (.sc (.bool false)))),none,0,0⟩] false)
 .ret)
 .skip)))))
 (.region [⟨(some 50),.bin .add (.t 37) (.c (.d (.sc (.int .i64 1)))),none,0,0⟩,
 ⟨(some 37),.mov (.t 50),none,0,0⟩] false)))))))
 (.seq
 (.seq
 (.region [⟨(some 51),.fieldAddr 1 (.t 1),none,0,0⟩,
 ⟨(some 52),.load 1 false (.t 51),none,0,0⟩,
 ⟨(some 53),.len (.t 52),none,0,0⟩,
 ⟨(some 54),.mov (.c (.d (.sc (.int .i64 0)))),none,0,0⟩] false)
 (.block 2
 (.loop
 (.seq
 (.region [⟨(some 55),.bin .lss (.t 54) (.t 53),none,0,0⟩] false)
 (.seq
 (.cond (.t 55)
 .skip
 (.exit 2))
 (.seq
 (.block 3
 (.seq
 (.region [⟨(some 56),.indexAddr 1 (.t 52) (.t 54),none,0,0⟩,
 ⟨(some 57),.load 1 false (.t 56),none,0,0⟩,
 ⟨(some 8),.mov (.t 57),none,0,0⟩] false)
 (.seq
 (.region [⟨(some 58),.mov (.t 8),none,0,0⟩,
 ⟨(some 59),.lenS (.t 58),none,0,0⟩,
 ⟨(some 60),.bin .gtr (.t 59) (.c (.d (.sc (.int .i64 64)))),none,0,0⟩] false)
 (.cond (.t 60)
 (.seq
 (.region [⟨(some 2),.mov (.c (.d (.sc (.bool false)))),none,0,0⟩] false)
 .ret)
 .skip))))
 (.region [⟨(some 61),.bin .add (.t 54) (.c (.d (.sc (.int .i64 1)))),none,0,0⟩,
 ⟨(some 54),.mov (.t 61),none,0,0⟩] false)))))))
 (.seq
 (.region [⟨(some 62),.mkSet,none,0,0⟩,
 ⟨(some 9),.mov (.t 62),none,0,0⟩] false)
 (.seq
 (.seq
 (.region [⟨(some 63),.fieldAddr 2 (.t 1),none,0,0⟩,
 ⟨(some 64),.load 1 false (.t 63),none,0,0⟩,
 ⟨(some 65),.len (.t 64),none,0,0⟩,
 ⟨(some 66),.mov (.c (.d (.sc (.int .i64 0)))),none,0,0⟩] false)
 (.block 4
 (.loop
 (.seq
 (.region [⟨(some 67),.bin .lss (.t 66) (.t 65),none,0,0⟩] false)
 (.seq
 (.cond (.t 67)
 .skip
 (.exit 4))
 (.seq
 (.block 5
 (.seq
 (.region [⟨(some 68),.indexAddr 7 (.t 64) (.t 66),none,0,0⟩,
 ⟨(some 69),.load 7 true (.t 68),none,0,0⟩,
 ⟨(some 11),.alloc [(.d (.sc (.string ⟨#[]⟩))),(.d (.sc (.int .i64 0))),(.d (.sc (.int .i64 0))),(.own [] .full),(.own [] .full),(.own [] .full),(.own [] .full)],none,0,0⟩,
 ⟨none,.store 7 (.t 11) (.t 69),none,0,0⟩] false)
 (.seq
 (.seq
 (.region [⟨(some 70),.mov (.t 9),none,0,0⟩,
 ⟨(some 71),.fieldAddr 0 (.t 11),none,0,0⟩,
 ⟨(some 72),.load 1 false (.t 71),none,0,0⟩,
 ⟨(some 73),.hasK (.t 70) (.t 72),none,0,0⟩,
 ⟨(some 74),.mov (.t 73),none,0,0⟩,
 ⟨(some 75),.fieldAddr 0 (.t 1),(some (74,false)),0,0⟩,
 ⟨(some 76),.load 1 false (.t 75),(some (74,false)),0,0⟩,
 ⟨(some 77),.load 7 true (.t 11),(some (74,false)),0,0⟩,
 ⟨(some 78),.callF 88 [(.t 76),(.t 77)],(some (74,false)),0,0⟩,
 ⟨(some 79),.un .not (.t 78),(some (74,false)),0,0⟩,
 ⟨(some 80),.pick (.t 74) (.c (.d (.sc (.bool true)))) (.t 79),none,0,0⟩] false)
 (.cond (.t 80)
 (.seq
 (.region [⟨(some 2),.mov (.c (.d (.sc (.bool false)))),none,0,0⟩] false)
 .ret)
 .skip))
 (.region [⟨(some 81),.mov (.t 9),none,0,0⟩,
 ⟨(some 82),.fieldAddr 0 (.t 11),none,0,0⟩,
 ⟨(some 83),.load 1 false (.t 82),none,0,0⟩,
 ⟨none,.addK (.t 81) (.t 83),none,0,0⟩] false))))
 (.region [⟨(some 84),.bin .add (.t 66) (.c (.d (.sc (.int .i64 1)))),none,0,0⟩,
 ⟨(some 66),.mov (.t 84),none,0,0⟩] false)))))))
 (.seq
 (.region [⟨(some 2),.mov (.c (.d (.sc (.bool true)))),none,0,0⟩] false)
 .ret))))))),false⟩
def t68:AFn:=⟨2,53,[],
 (.seq
 (.region [⟨(some 6),.mov (.t 0),none,0,0⟩,
 ⟨(some 7),.mov (.t 1),none,0,0⟩,
 ⟨(some 8),.len (.t 7),none,0,0⟩,
 ⟨(some 9),.callF 69 [(.t 6),(.t 8)],none,0,0⟩] false)
 (.seq
 (.region [⟨(some 10),.mov (.t 1),none,0,0⟩,
 ⟨(some 11),.len (.t 10),none,0,0⟩,
 ⟨(some 12),.mov (.c (.d (.sc (.int .i64 0)))),none,0,0⟩] false)
 (.block 0
 (.loop
 (.seq
 (.region [⟨(some 13),.bin .lss (.t 12) (.t 11),none,0,0⟩] false)
 (.seq
 (.cond (.t 13)
 .skip
 (.exit 0))
 (.seq
 (.block 1
 (.seq
 (.region [⟨(some 14),.indexAddr 4 (.t 10) (.t 12),none,0,0⟩,
 ⟨(some 15),.load 4 true (.t 14),none,0,0⟩,
 ⟨(some 5),.alloc [(.d (.sc (.int .u8 0))),(.d (.sc (.int .i64 0))),(.d (.sc (.int .i64 0))),(.own [] .full)],none,0,0⟩,
 ⟨none,.store 4 (.t 5) (.t 15),none,0,0⟩] false)
 (.seq
 (.region [⟨(some 16),.mov (.t 0),none,0,0⟩,
 ⟨(some 17),.mov (.t 0),none,0,0⟩,
 ⟨(some 18),.nilCheck (.t 17),none,2,0⟩,
 ⟨(some 19),.fieldAddr 0 (.t 18),none,6,0⟩,
 ⟨(some 20),.load 1 false (.t 19),none,14,0⟩,
 ⟨(some 21),.fieldAddr 0 (.t 5),none,0,0⟩,
 ⟨(some 22),.load 1 false (.t 21),none,32,0⟩,
 ⟨(some 23),.buildSlice 1 1 [(.sc (.int .u8 0))] [(0,(.t 22))],none,96,0⟩,
 ⟨(some 24),.append 1 1 (.t 20) (.t 23),none,254,0⟩,
 ⟨(some 25),.nilCheck (.t 16),none,511,0⟩,
 ⟨(some 26),.fieldAddr 0 (.t 25),none,1023,0⟩,
 ⟨none,.store 1 (.t 26) (.t 24),none,2047,0⟩] true)
 (.seq
 (.region [⟨(some 27),.fieldAddr 0 (.t 5),none,0,0⟩,
 ⟨(some 28),.load 1 false (.t 27),none,0,0⟩] false)
 (.block 2
 (.seq
 (.seq
 (.region [⟨(some 30),.bin .eql (.t 28) (.c (.d (.sc (.int .u8 4)))),none,0,0⟩,
 ⟨(some 29),.mov (.t 30),none,0,0⟩] false)
 (.cond (.t 29)
 .skip
 (.region [⟨(some 31),.bin .eql (.t 28) (.c (.d (.sc (.int .u8 7)))),none,0,0⟩,
 ⟨(some 29),.mov (.t 31),none,0,0⟩] false)))
 (.cond (.t 29)
 (.region [⟨(some 32),.mov (.t 0),none,0,0⟩,
 ⟨(some 33),.fieldAddr 1 (.t 5),none,0,0⟩,
 ⟨(some 34),.load 1 false (.t 33),none,0,0⟩,
 ⟨(some 35),.callF 69 [(.t 32),(.t 34)],none,0,0⟩] false)
 (.seq
 (.region [⟨(some 37),.bin .eql (.t 28) (.c (.d (.sc (.int .u8 6)))),none,0,0⟩,
 ⟨(some 36),.mov (.t 37),none,0,0⟩] false)
 (.cond (.t 36)
 (.seq
 (.region [⟨(some 38),.mov (.t 0),none,0,0⟩,
 ⟨(some 39),.fieldAddr 1 (.t 5),none,0,0⟩,
 ⟨(some 40),.load 1 false (.t 39),none,0,0⟩,
 ⟨(some 41),.callF 69 [(.t 38),(.t 40)],none,0,0⟩] false)
 (.region [⟨(some 42),.mov (.t 0),none,0,0⟩,
 ⟨(some 43),.fieldAddr 2 (.t 5),none,0,0⟩,
 ⟨(some 44),.load 1 false (.t 43),none,0,0⟩,
 ⟨(some 45),.callF 69 [(.t 42),(.t 44)],none,0,0⟩] false))
 (.seq
 (.region [⟨(some 47),.bin .eql (.t 28) (.c (.d (.sc (.int .u8 5)))),none,0,0⟩,
 ⟨(some 46),.mov (.t 47),none,0,0⟩] false)
 (.cond (.t 46)
 (.region [⟨(some 48),.mov (.t 0),none,0,0⟩,
 ⟨(some 49),.fieldAddr 3 (.t 5),none,0,0⟩,
 ⟨(some 50),.load 1 false (.t 49),none,0,0⟩,
 ⟨(some 51),.callF 89 [(.t 48),(.t 50)],none,0,0⟩] false)
 .skip)))))))))))
 (.region [⟨(some 52),.bin .add (.t 12) (.c (.d (.sc (.int .i64 1)))),none,0,0⟩,
 ⟨(some 12),.mov (.t 52),none,0,0⟩] false)))))))),true⟩
def t69:AFn:=⟨2,15,[],
 (.region [⟨(some 4),.mov (.t 0),none,0,0⟩,
 ⟨(some 5),.mov (.t 0),none,0,0⟩,
 ⟨(some 6),.nilCheck (.t 5),none,2,0⟩,
 ⟨(some 7),.fieldAddr 0 (.t 6),none,6,0⟩,
 ⟨(some 8),.load 1 false (.t 7),none,14,0⟩,
 ⟨(some 9),.mov (.t 1),none,0,0⟩,
 ⟨(some 10),.conv .u64 (.t 9),none,32,0⟩,
 ⟨(some 11),.call 90 [(.t 10)],none,96,0⟩,
 ⟨(some 12),.append 1 1 (.t 8) (.t 11),none,254,0⟩,
 ⟨(some 13),.nilCheck (.t 4),none,511,0⟩,
 ⟨(some 14),.fieldAddr 0 (.t 13),none,1023,0⟩,
 ⟨none,.store 1 (.t 14) (.t 12),none,2047,0⟩] true),true⟩
def t70:AFn:=⟨2,17,[],
 (.seq
 (.region [⟨(some 4),.mov (.t 0),none,0,0⟩,
 ⟨(some 5),.mov (.t 1),none,0,0⟩,
 ⟨(some 6),.lenS (.t 5),none,0,0⟩,
 ⟨(some 7),.callF 69 [(.t 4),(.t 6)],none,0,0⟩] false)
 (.region [⟨(some 8),.mov (.t 0),none,0,0⟩,
 ⟨(some 9),.mov (.t 0),none,0,0⟩,
 ⟨(some 10),.nilCheck (.t 9),none,0,0⟩,
 ⟨(some 11),.fieldAddr 0 (.t 10),none,0,0⟩,
 ⟨(some 12),.load 1 false (.t 11),none,0,0⟩,
 ⟨(some 13),.mov (.t 1),none,0,0⟩,
 ⟨(some 14),.append 1 1 (.t 12) (.t 13),none,0,0⟩,
 ⟨(some 15),.nilCheck (.t 8),none,0,0⟩,
 ⟨(some 16),.fieldAddr 0 (.t 15),none,0,0⟩,
 ⟨none,.store 1 (.t 16) (.t 14),none,0,0⟩] false)),true⟩
def t71:AFn:=⟨2,97,[.t 4],
 (.seq
 (.region [⟨(some 3),.box (.t 1),none,0,0⟩,
 ⟨(some 4),.mov (.c (.d (.sc (.int .i64 0)))),none,0,0⟩] false)
 (.seq
 (.region [⟨(some 13),.mov (.t 0),none,0,0⟩,
 ⟨(some 14),.fieldAddr 0 (.t 3),none,0,0⟩,
 ⟨(some 15),.load 1 false (.t 14),none,0,0⟩,
 ⟨(some 16),.callF 70 [(.t 13),(.t 15)],none,0,0⟩] false)
 (.seq
 (.region [⟨(some 17),.mov (.t 0),none,0,0⟩,
 ⟨(some 18),.fieldAddr 1 (.t 3),none,0,0⟩,
 ⟨(some 19),.load 1 false (.t 18),none,0,0⟩,
 ⟨(some 20),.callF 69 [(.t 17),(.t 19)],none,0,0⟩] false)
 (.seq
 (.region [⟨(some 21),.mov (.t 0),none,0,0⟩,
 ⟨(some 22),.mov (.t 0),none,0,0⟩,
 ⟨(some 23),.nilCheck (.t 22),none,2,0⟩,
 ⟨(some 24),.fieldAddr 0 (.t 23),none,6,0⟩,
 ⟨(some 25),.load 1 false (.t 24),none,14,0⟩,
 ⟨(some 26),.fieldAddr 2 (.t 3),none,0,0⟩,
 ⟨(some 27),.load 1 false (.t 26),none,32,0⟩,
 ⟨(some 28),.call 91 [(.t 27)],none,96,0⟩,
 ⟨(some 29),.append 1 1 (.t 25) (.t 28),none,254,0⟩,
 ⟨(some 30),.nilCheck (.t 21),none,511,0⟩,
 ⟨(some 31),.fieldAddr 0 (.t 30),none,1023,0⟩,
 ⟨none,.store 1 (.t 31) (.t 29),none,2047,0⟩] true)
 (.seq
 (.region [⟨(some 32),.mov (.t 0),none,0,0⟩,
 ⟨(some 33),.fieldAddr 3 (.t 3),none,0,0⟩,
 ⟨(some 34),.load 1 false (.t 33),none,0,0⟩,
 ⟨(some 35),.callF 89 [(.t 32),(.t 34)],none,0,0⟩] false)
 (.seq
 (.region [⟨(some 36),.mov (.t 0),none,0,0⟩,
 ⟨(some 37),.fieldAddr 4 (.t 3),none,0,0⟩,
 ⟨(some 38),.load 1 false (.t 37),none,0,0⟩,
 ⟨(some 39),.len (.t 38),none,0,0⟩,
 ⟨(some 40),.callF 69 [(.t 36),(.t 39)],none,0,0⟩] false)
 (.seq
 (.seq
 (.region [⟨(some 41),.fieldAddr 4 (.t 3),none,0,0⟩,
 ⟨(some 42),.load 1 false (.t 41),none,0,0⟩,
 ⟨(some 43),.len (.t 42),none,0,0⟩,
 ⟨(some 44),.mov (.c (.d (.sc (.int .i64 0)))),none,0,0⟩] false)
 (.block 0
 (.loop
 (.seq
 (.region [⟨(some 45),.bin .lss (.t 44) (.t 43),none,0,0⟩] false)
 (.seq
 (.cond (.t 45)
 .skip
 (.exit 0))
 (.seq
 (.block 1
 (.seq
 (.region [⟨(some 46),.indexAddr 4 (.t 42) (.t 44),none,0,0⟩,
 ⟨(some 47),.load 4 true (.t 46),none,0,0⟩,
 ⟨(some 6),.alloc [(.d (.sc (.int .u8 0))),(.d (.sc (.int .i64 0))),(.d (.sc (.int .i64 0))),(.d (.sc (.int .i64 0)))],none,0,0⟩,
 ⟨none,.store 4 (.t 6) (.t 47),none,0,0⟩] false)
 (.seq
 (.region [⟨(some 49),.load 4 true (.t 6),none,0,0⟩,
 ⟨(some 50),.call 92 [(.t 49)],none,0,0⟩,
 ⟨(some 48),.mov (.t 50),none,0,0⟩,
 ⟨(some 51),.extract (.t 48) 0,none,0,0⟩,
 ⟨(some 52),.extract (.t 48) 1,none,0,0⟩,
 ⟨(some 7),.mov (.t 51),none,0,0⟩,
 ⟨(some 8),.mov (.t 52),none,0,0⟩] false)
 (.seq
 (.seq
 (.region [⟨(some 53),.mov (.t 8),none,0,0⟩,
 ⟨(some 54),.bin .neq (.t 53) (.c (.d (.sc (.int .i64 0)))),none,0,0⟩] false)
 (.cond (.t 54)
 (.seq
 (.region [⟨(some 55),.mov (.t 8),none,0,0⟩,
 ⟨(some 4),.mov (.t 55),none,0,0⟩] false)
 .ret)
 .skip))
 (.region [⟨(some 56),.mov (.t 0),none,0,0⟩,
 ⟨(some 57),.mov (.t 0),none,0,0⟩,
 ⟨(some 58),.nilCheck (.t 57),none,0,0⟩,
 ⟨(some 59),.fieldAddr 0 (.t 58),none,0,0⟩,
 ⟨(some 60),.load 1 false (.t 59),none,0,0⟩,
 ⟨(some 61),.mov (.t 7),none,0,0⟩,
 ⟨(some 62),.append 1 1 (.t 60) (.t 61),none,0,0⟩,
 ⟨(some 63),.nilCheck (.t 56),none,0,0⟩,
 ⟨(some 64),.fieldAddr 0 (.t 63),none,0,0⟩,
 ⟨none,.store 1 (.t 64) (.t 62),none,0,0⟩] false)))))
 (.region [⟨(some 65),.bin .add (.t 44) (.c (.d (.sc (.int .i64 1)))),none,0,0⟩,
 ⟨(some 44),.mov (.t 65),none,0,0⟩] false)))))))
 (.seq
 (.seq
 (.region [⟨(some 66),.fieldAddr 5 (.t 3),none,0,0⟩,
 ⟨(some 67),.load 1 false (.t 66),none,0,0⟩,
 ⟨(some 68),.fieldAddr 6 (.t 3),none,0,0⟩,
 ⟨(some 69),.load 1 false (.t 68),none,0,0⟩,
 ⟨(some 70),.buildSlice 1 2 [(.sl [])] [(0,(.t 67)),(1,(.t 69))],none,0,0⟩,
 ⟨(some 71),.len (.t 70),none,0,0⟩,
 ⟨(some 72),.mov (.c (.d (.sc (.int .i64 0)))),none,0,0⟩] false)
 (.block 2
 (.loop
 (.seq
 (.region [⟨(some 73),.bin .lss (.t 72) (.t 71),none,0,0⟩] false)
 (.seq
 (.cond (.t 73)
 .skip
 (.exit 2))
 (.seq
 (.block 3
 (.seq
 (.region [⟨(some 74),.indexAddr 1 (.t 70) (.t 72),none,0,0⟩,
 ⟨(some 75),.load 1 false (.t 74),none,0,0⟩,
 ⟨(some 10),.mov (.t 75),none,0,0⟩] false)
 (.seq
 (.region [⟨(some 77),.mov (.t 10),none,0,0⟩,
 ⟨(some 78),.fieldAddr 4 (.t 3),none,0,0⟩,
 ⟨(some 79),.load 1 false (.t 78),none,0,0⟩,
 ⟨(some 80),.len (.t 79),none,0,0⟩,
 ⟨(some 81),.call 93 [(.t 77),(.t 80)],none,0,0⟩,
 ⟨(some 76),.mov (.t 81),none,0,0⟩,
 ⟨(some 82),.extract (.t 76) 0,none,0,0⟩,
 ⟨(some 83),.extract (.t 76) 1,none,0,0⟩,
 ⟨(some 11),.mov (.t 82),none,0,0⟩,
 ⟨(some 12),.mov (.t 83),none,0,0⟩] false)
 (.seq
 (.seq
 (.region [⟨(some 84),.mov (.t 12),none,0,0⟩,
 ⟨(some 85),.bin .neq (.t 84) (.c (.d (.sc (.int .i64 0)))),none,0,0⟩] false)
 (.cond (.t 85)
 (.seq
 (.region [⟨(some 86),.mov (.t 12),none,0,0⟩,
 ⟨(some 4),.mov (.t 86),none,0,0⟩] false)
 .ret)
 .skip))
 (.region [⟨(some 87),.mov (.t 0),none,0,0⟩,
 ⟨(some 88),.mov (.t 0),none,0,0⟩,
 ⟨(some 89),.nilCheck (.t 88),none,0,0⟩,
 ⟨(some 90),.fieldAddr 0 (.t 89),none,0,0⟩,
 ⟨(some 91),.load 1 false (.t 90),none,0,0⟩,
 ⟨(some 92),.mov (.t 11),none,0,0⟩,
 ⟨(some 93),.append 1 1 (.t 91) (.t 92),none,0,0⟩,
 ⟨(some 94),.nilCheck (.t 87),none,0,0⟩,
 ⟨(some 95),.fieldAddr 0 (.t 94),none,0,0⟩,
 ⟨none,.store 1 (.t 95) (.t 93),none,0,0⟩] false)))))
 (.region [⟨(some 96),.bin .add (.t 72) (.c (.d (.sc (.int .i64 1)))),none,0,0⟩,
 ⟨(some 72),.mov (.t 96),none,0,0⟩] false)))))))
 (.seq
 (.region [⟨(some 4),.mov (.c (.d (.sc (.int .i64 0)))),none,0,0⟩] false)
 .ret))))))))),true⟩
def t72:AFn:=⟨2,68,[.t 4,.cell 5 2 true],
 (.seq
 (.region [⟨(some 4),.mov (.c (.own [] .full)),none,0,0⟩,
 ⟨(some 5),.alloc [(.d (.sc (.int .i64 0))),(.d (.sc (.int .i64 0)))],none,0,0⟩] false)
 (.seq
 (.region [⟨(some 11),.mov (.t 1),none,0,0⟩,
 ⟨(some 12),.len (.t 11),none,0,0⟩,
 ⟨(some 13),.makeSlice 1 8 [(.sc (.int .i64 0))] (.t 12) (.t 12),none,0,1⟩,
 ⟨(some 14),.build [(.d (.sc (.int .i64 0))),(.d (.sc (.int .i64 0)))] [(0,1,(.c (.d (.sc (.int .i64 0))))),(1,1,(.c (.d (.sc (.int .i64 1)))))],none,0,0⟩,
 ⟨(some 7),.alloc [(.d (.sc (.int .i64 0))),(.d (.sc (.int .i64 0)))],none,0,0⟩,
 ⟨(some 6),.mov (.t 13),none,0,0⟩,
 ⟨none,.store 2 (.t 7) (.t 14),none,0,0⟩] false)
 (.seq
 (.seq
 (.region [⟨(some 15),.mov (.t 1),none,0,0⟩,
 ⟨(some 16),.len (.t 15),none,0,0⟩,
 ⟨(some 17),.mov (.c (.d (.sc (.int .i64 0)))),none,0,0⟩] false)
 (.block 0
 (.loop
 (.seq
 (.region [⟨(some 18),.bin .lss (.t 17) (.t 16),none,0,0⟩] false)
 (.seq
 (.cond (.t 18)
 .skip
 (.exit 0))
 (.seq
 (.block 1
 (.seq
 (.region [⟨(some 19),.mov (.t 17),none,0,0⟩,
 ⟨(some 20),.indexAddr 2 (.t 15) (.t 17),none,0,0⟩,
 ⟨(some 21),.load 2 true (.t 20),none,0,0⟩,
 ⟨(some 9),.alloc [(.d (.sc (.string ⟨#[]⟩))),(.d (.sc (.int .i64 0)))],none,0,0⟩,
 ⟨(some 8),.mov (.t 19),none,0,0⟩,
 ⟨none,.store 2 (.t 9) (.t 21),none,0,0⟩] false)
 (.seq
 (.region [⟨(some 22),.mov (.t 0),none,0,0⟩,
 ⟨(some 23),.fieldAddr 1 (.t 9),none,0,0⟩,
 ⟨(some 24),.load 1 false (.t 23),none,0,0⟩,
 ⟨(some 25),.indexAddr 2 (.t 22) (.t 24),none,0,0⟩,
 ⟨(some 26),.load 2 true (.t 25),none,0,0⟩,
 ⟨(some 10),.alloc [(.d (.sc (.int .i64 0))),(.d (.sc (.int .i64 0)))],none,0,0⟩,
 ⟨none,.store 2 (.t 10) (.t 26),none,0,0⟩] false)
 (.seq
 (.region [⟨(some 27),.mov (.t 6),none,0,0⟩,
 ⟨(some 28),.mov (.t 8),none,0,0⟩,
 ⟨(some 29),.fieldAddr 0 (.t 7),none,0,0⟩,
 ⟨(some 30),.load 1 false (.t 29),none,0,0⟩,
 ⟨(some 31),.fieldAddr 1 (.t 10),none,0,0⟩,
 ⟨(some 32),.load 1 false (.t 31),none,0,0⟩,
 ⟨(some 33),.bin .add (.t 30) (.t 32),none,0,0⟩,
 ⟨(some 34),.bin .sub (.t 33) (.c (.d (.sc (.int .i64 1)))),none,0,0⟩,
 ⟨(some 35),.fieldAddr 1 (.t 10),none,0,0⟩,
 ⟨(some 36),.load 1 false (.t 35),none,0,0⟩,
 ⟨(some 37),.bin .sub (.t 36) (.c (.d (.sc (.int .i64 1)))),none,0,0⟩,
 ⟨(some 38),.bin .andNot (.t 34) (.t 37),none,0,0⟩,
 ⟨(some 39),.indexAddr 1 (.t 27) (.t 28),none,0,0⟩,
 ⟨none,.store 1 (.t 39) (.t 38),none,0,0⟩] false)
 (.region [⟨(some 40),.mov (.t 6),none,0,0⟩,
 ⟨(some 41),.mov (.t 8),none,0,0⟩,
 ⟨(some 42),.indexAddr 1 (.t 40) (.t 41),none,3,0⟩,
 ⟨(some 43),.load 1 false (.t 42),none,7,0⟩,
 ⟨(some 44),.fieldAddr 0 (.t 10),none,0,0⟩,
 ⟨(some 45),.load 1 false (.t 44),none,16,0⟩,
 ⟨(some 46),.bin .add (.t 43) (.t 45),none,63,0⟩,
 ⟨(some 47),.mini (.c (.d (.sc (.int .i64 1048576)))) (.t 46),none,127,0⟩,
 ⟨(some 48),.fieldAddr 1 (.t 7),none,0,0⟩,
 ⟨(some 49),.load 1 false (.t 48),none,256,0⟩,
 ⟨(some 50),.fieldAddr 1 (.t 10),none,0,0⟩,
 ⟨(some 51),.load 1 false (.t 50),none,1024,0⟩,
 ⟨(some 52),.maxi (.t 49) (.t 51),none,3840,0⟩,
 ⟨(some 53),.build [(.d (.sc (.int .i64 0))),(.d (.sc (.int .i64 0)))] [(0,1,(.t 47)),(1,1,(.t 52))],none,8191,0⟩,
 ⟨none,.store 2 (.t 7) (.t 53),none,16383,0⟩] true)))))
 (.region [⟨(some 54),.bin .add (.t 17) (.c (.d (.sc (.int .i64 1)))),none,0,0⟩,
 ⟨(some 17),.mov (.t 54),none,0,0⟩] false)))))))
 (.seq
 (.region [⟨(some 55),.fieldAddr 0 (.t 7),none,0,0⟩,
 ⟨(some 56),.load 1 false (.t 55),none,0,0⟩,
 ⟨(some 57),.fieldAddr 1 (.t 7),none,0,0⟩,
 ⟨(some 58),.load 1 false (.t 57),none,0,0⟩,
 ⟨(some 59),.bin .add (.t 56) (.t 58),none,0,0⟩,
 ⟨(some 60),.bin .sub (.t 59) (.c (.d (.sc (.int .i64 1)))),none,0,0⟩,
 ⟨(some 61),.fieldAddr 1 (.t 7),none,0,0⟩,
 ⟨(some 62),.load 1 false (.t 61),none,0,0⟩,
 ⟨(some 63),.bin .sub (.t 62) (.c (.d (.sc (.int .i64 1)))),none,0,0⟩,
 ⟨(some 64),.bin .andNot (.t 60) (.t 63),none,0,0⟩,
 ⟨(some 65),.fieldAddr 0 (.t 7),none,0,0⟩,
 ⟨none,.store 1 (.t 65) (.t 64),none,0,0⟩] false)
 (.seq
 (.region [⟨(some 66),.mov (.t 6),none,0,0⟩,
 ⟨(some 67),.load 2 true (.t 7),none,0,0⟩,
 ⟨(some 4),.mov (.t 66),none,1,0⟩,
 ⟨none,.store 2 (.t 5) (.t 67),none,7,0⟩] true)
 .ret))))),false⟩
def t74:AFn:=⟨1,9,[.t 2],
 (.seq
 (.region [⟨(some 2),.mov (.c (.d (.sc (.int .i64 0)))),none,0,0⟩] false)
 (.seq
 (.seq
 (.region [⟨(some 3),.mov (.t 0),none,0,0⟩,
 ⟨(some 4),.bin .lss (.t 3) (.c (.d (.sc (.int .i64 1)))),none,0,0⟩,
 ⟨(some 5),.mov (.t 4),none,0,0⟩,
 ⟨(some 6),.mov (.t 0),(some (5,false)),0,0⟩,
 ⟨(some 7),.bin .gtr (.t 6) (.c (.d (.sc (.int .i64 200)))),(some (5,false)),0,0⟩,
 ⟨(some 8),.pick (.t 5) (.c (.d (.sc (.bool true)))) (.t 7),none,0,0⟩] false)
 (.cond (.t 8)
 (.seq
 (.region [⟨(some 2),.mov (.c (.d (.sc (.int .i64 2)))),none,0,0⟩] false)
 .ret)
 .skip))
 (.seq
 (.region [⟨(some 2),.mov (.c (.d (.sc (.int .i64 0)))),none,0,0⟩] false)
 .ret))),false⟩
def t75:AFn:=⟨2,55,[.t 4],
 (.seq
 (.region [⟨(some 4),.mov (.c (.d (.sc (.bool false)))),none,0,0⟩] false)
 (.seq
 (.seq
 (.region [⟨(some 8),.mov (.t 0),none,0,0⟩,
 ⟨(some 9),.len (.t 8),none,0,0⟩,
 ⟨(some 10),.bin .eql (.t 9) (.c (.d (.sc (.int .i64 0)))),none,0,0⟩,
 ⟨(some 11),.mov (.t 10),none,0,0⟩,
 ⟨(some 12),.mov (.t 0),(some (11,false)),0,0⟩,
 ⟨(some 13),.indexAddr 2 (.t 12) (.c (.d (.sc (.int .i64 0)))),(some (11,false)),0,0⟩,
 ⟨(some 14),.fieldAddr 0 (.t 13),(some (11,false)),0,0⟩,
 ⟨(some 15),.load 1 false (.t 14),(some (11,false)),0,0⟩,
 ⟨(some 16),.bin .neq (.t 15) (.c (.d (.sc (.int .i64 0)))),(some (11,false)),0,0⟩,
 ⟨(some 17),.pick (.t 11) (.c (.d (.sc (.bool true)))) (.t 16),none,0,0⟩,
 ⟨(some 18),.mov (.t 17),none,0,0⟩,
 ⟨(some 19),.mov (.t 0),(some (18,false)),0,0⟩,
 ⟨(some 20),.mov (.t 0),(some (18,false)),0,0⟩,
 ⟨(some 21),.len (.t 20),(some (18,false)),0,0⟩,
 ⟨(some 22),.bin .sub (.t 21) (.c (.d (.sc (.int .i64 1)))),(some (18,false)),0,0⟩,
 ⟨(some 23),.indexAddr 2 (.t 19) (.t 22),(some (18,false)),0,0⟩,
 ⟨(some 24),.fieldAddr 0 (.t 23),(some (18,false)),0,0⟩,
 ⟨(some 25),.load 1 false (.t 24),(some (18,false)),0,0⟩,
 ⟨(some 26),.mov (.t 1),(some (18,false)),0,0⟩,
 ⟨(some 27),.bin .geq (.t 25) (.t 26),(some (18,false)),0,0⟩,
 ⟨(some 28),.pick (.t 18) (.c (.d (.sc (.bool true)))) (.t 27),none,0,0⟩] false)
 (.cond (.t 28)
 (.seq
 (.region [⟨(some 4),.mov (.c (.d (.sc (.bool false)))),none,0,0⟩] false)
 .ret)
 .skip))
 (.seq
 (.region [⟨(some 29),.mov (.t 0),none,0,0⟩,
 ⟨(some 30),.indexAddr 2 (.t 29) (.c (.d (.sc (.int .i64 0)))),none,0,0⟩,
 ⟨(some 31),.load 2 true (.t 30),none,0,0⟩,
 ⟨(some 5),.alloc [(.d (.sc (.int .i64 0))),(.d (.sc (.int .u64 0)))],none,0,0⟩,
 ⟨none,.store 2 (.t 5) (.t 31),none,0,0⟩] false)
 (.seq
 (.seq
 (.region [⟨(some 32),.mov (.t 0),none,0,0⟩,
 ⟨(some 33),.slice 2 (.t 32) (some (.c (.d (.sc (.int .i64 1))))) none none,none,0,0⟩,
 ⟨(some 34),.len (.t 33),none,0,0⟩,
 ⟨(some 35),.mov (.c (.d (.sc (.int .i64 0)))),none,0,0⟩] false)
 (.block 0
 (.loop
 (.seq
 (.region [⟨(some 36),.bin .lss (.t 35) (.t 34),none,0,0⟩] false)
 (.seq
 (.cond (.t 36)
 .skip
 (.exit 0))
 (.seq
 (.block 1
 (.seq
 (.region [⟨(some 37),.indexAddr 2 (.t 33) (.t 35),none,0,0⟩,
 ⟨(some 38),.load 2 true (.t 37),none,0,0⟩,
 ⟨(some 7),.alloc [(.d (.sc (.int .i64 0))),(.d (.sc (.int .u64 0)))],none,0,0⟩,
 ⟨none,.store 2 (.t 7) (.t 38),none,0,0⟩] false)
 (.seq
 (.seq
 (.region [⟨(some 39),.fieldAddr 0 (.t 7),none,0,0⟩,
 ⟨(some 40),.load 1 false (.t 39),none,0,0⟩,
 ⟨(some 41),.fieldAddr 0 (.t 5),none,0,0⟩,
 ⟨(some 42),.load 1 false (.t 41),none,0,0⟩,
 ⟨(some 43),.bin .leq (.t 40) (.t 42),none,0,0⟩,
 ⟨(some 44),.mov (.t 43),none,0,0⟩,
 ⟨(some 45),.load 2 true (.t 7),(some (44,false)),0,0⟩,
 ⟨(some 46),.fieldAddr 0 (.t 7),(some (44,false)),0,0⟩,
 ⟨(some 47),.load 1 false (.t 46),(some (44,false)),0,0⟩,
 ⟨(some 48),.fieldAddr 1 (.t 5),(some (44,false)),0,0⟩,
 ⟨(some 49),.load 1 false (.t 48),(some (44,false)),0,0⟩,
 ⟨(some 50),.build [(.d (.sc (.int .i64 0))),(.d (.sc (.int .u64 0)))] [(0,1,(.t 47)),(1,1,(.t 49))],(some (44,false)),0,0⟩,
 ⟨(some 51),.eqA false 2 [(0,1),(1,1)] (.t 45) (.t 50),(some (44,false)),0,0⟩,
 ⟨(some 52),.pick (.t 44) (.c (.d (.sc (.bool true)))) (.t 51),none,0,0⟩] false)
 (.cond (.t 52)
 (.seq
 (.region [⟨(some 4),.mov (.c (.d (.sc (.bool false)))),none,0,0⟩] false)
 .ret)
 .skip))
 (.region [⟨(some 53),.load 2 true (.t 7),none,0,0⟩,
 ⟨none,.store 2 (.t 5) (.t 53),none,0,0⟩] false))))
 (.region [⟨(some 54),.bin .add (.t 35) (.c (.d (.sc (.int .i64 1)))),none,0,0⟩,
 ⟨(some 35),.mov (.t 54),none,0,0⟩] false)))))))
 (.seq
 (.region [⟨(some 4),.mov (.c (.d (.sc (.bool true)))),none,0,0⟩] false)
 .ret))))),false⟩
def t85:AFn:=⟨2,118,[.t 4],
 (.seq
 (.region [⟨(some 4),.mov (.c (.d (.sc (.bool false)))),none,0,0⟩] false)
 (.seq
 (.region [⟨(some 10),.mov (.t 0),none,0,0⟩,
 ⟨(some 11),.mov (.t 1),none,0,0⟩,
 ⟨(some 12),.indexAddr 4 (.t 10) (.t 11),none,0,0⟩,
 ⟨(some 13),.load 4 true (.t 12),none,0,0⟩,
 ⟨(some 5),.alloc [(.d (.sc (.int .u8 0))),(.d (.sc (.int .i64 0))),(.d (.sc (.int .i64 0))),(.own [] .full)],none,0,0⟩,
 ⟨none,.store 4 (.t 5) (.t 13),none,0,0⟩] false)
 (.seq
 (.region [⟨(some 6),.mov (.c (.clo 97 [])),none,0,0⟩] false)
 (.seq
 (.seq
 (.region [⟨(some 14),.fieldAddr 0 (.t 5),none,0,0⟩,
 ⟨(some 15),.load 1 false (.t 14),none,0,0⟩] false)
 (.block 0
 (.seq
 (.seq
 (.region [⟨(some 17),.bin .eql (.t 15) (.c (.d (.sc (.int .u8 1)))),none,0,0⟩,
 ⟨(some 16),.mov (.t 17),none,0,0⟩] false)
 (.cond (.t 16)
 .skip
 (.seq
 (.region [⟨(some 18),.bin .eql (.t 15) (.c (.d (.sc (.int .u8 2)))),none,0,0⟩,
 ⟨(some 16),.mov (.t 18),none,0,0⟩] false)
 (.cond (.t 16)
 .skip
 (.region [⟨(some 19),.bin .eql (.t 15) (.c (.d (.sc (.int .u8 3)))),none,0,0⟩,
 ⟨(some 16),.mov (.t 19),none,0,0⟩] false)))))
 (.cond (.t 16)
 (.seq
 (.region [⟨(some 20),.fieldAddr 1 (.t 5),none,0,0⟩,
 ⟨(some 21),.load 1 false (.t 20),none,0,0⟩,
 ⟨(some 22),.fieldAddr 2 (.t 5),none,0,0⟩,
 ⟨(some 23),.load 1 false (.t 22),none,0,0⟩,
 ⟨(some 24),.fieldAddr 3 (.t 5),none,0,0⟩,
 ⟨(some 25),.load 1 false (.t 24),none,0,0⟩,
 ⟨(some 26),.len (.t 25),none,0,0⟩,
 ⟨(some 27),.buildSlice 1 3 [(.sc (.int .i64 0))] [(0,(.t 21)),(1,(.t 23)),(2,(.t 26))],none,0,2⟩,
 ⟨(some 28),.callF 98 [(.t 27)],none,0,0⟩,
 ⟨(some 4),.mov (.t 28),none,0,0⟩] false)
 .ret)
 (.seq
 (.seq
 (.region [⟨(some 30),.bin .eql (.t 15) (.c (.d (.sc (.int .u8 4)))),none,0,0⟩,
 ⟨(some 29),.mov (.t 30),none,0,0⟩] false)
 (.cond (.t 29)
 .skip
 (.region [⟨(some 31),.bin .eql (.t 15) (.c (.d (.sc (.int .u8 7)))),none,0,0⟩,
 ⟨(some 29),.mov (.t 31),none,0,0⟩] false)))
 (.cond (.t 29)
 (.seq
 (.region [⟨(some 32),.mov (.t 6),none,0,0⟩,
 ⟨(some 33),.fieldAddr 1 (.t 5),none,0,0⟩,
 ⟨(some 34),.load 1 false (.t 33),none,0,0⟩,
 ⟨(some 35),.mov (.t 0),none,0,0⟩,
 ⟨(some 36),.len (.t 35),none,0,0⟩,
 ⟨(some 37),.callv (.t 32) [(.t 34),(.t 36)],none,0,0⟩,
 ⟨(some 38),.mov (.t 37),none,0,0⟩,
 ⟨(some 39),.fieldAddr 2 (.t 5),(some (38,true)),0,0⟩,
 ⟨(some 40),.load 1 false (.t 39),(some (38,true)),0,0⟩,
 ⟨(some 41),.fieldAddr 3 (.t 5),(some (38,true)),0,0⟩,
 ⟨(some 42),.load 1 false (.t 41),(some (38,true)),0,0⟩,
 ⟨(some 43),.len (.t 42),(some (38,true)),0,0⟩,
 ⟨(some 44),.buildSlice 1 2 [(.sc (.int .i64 0))] [(0,(.t 40)),(1,(.t 43))],(some (38,true)),0,2⟩,
 ⟨(some 45),.callF 98 [(.t 44)],(some (38,true)),0,0⟩,
 ⟨(some 46),.pick (.t 38) (.t 45) (.c (.d (.sc (.bool false)))),none,0,0⟩,
 ⟨(some 4),.mov (.t 46),none,0,0⟩] false)
 .ret)
 (.seq
 (.region [⟨(some 48),.bin .eql (.t 15) (.c (.d (.sc (.int .u8 6)))),none,0,0⟩,
 ⟨(some 47),.mov (.t 48),none,0,0⟩] false)
 (.cond (.t 47)
 (.seq
 (.region [⟨(some 49),.mov (.t 6),none,0,0⟩,
 ⟨(some 50),.fieldAddr 1 (.t 5),none,0,0⟩,
 ⟨(some 51),.load 1 false (.t 50),none,0,0⟩,
 ⟨(some 52),.mov (.t 1),none,0,0⟩,
 ⟨(some 53),.callv (.t 49) [(.t 51),(.t 52)],none,0,0⟩,
 ⟨(some 54),.mov (.t 53),none,0,0⟩,
 ⟨(some 55),.mov (.t 6),(some (54,true)),0,0⟩,
 ⟨(some 56),.fieldAddr 2 (.t 5),(some (54,true)),0,0⟩,
 ⟨(some 57),.load 1 false (.t 56),(some (54,true)),0,0⟩,
 ⟨(some 58),.bin .sub (.t 57) (.c (.d (.sc (.int .i64 1)))),(some (54,true)),0,0⟩,
 ⟨(some 59),.callv (.t 55) [(.t 58),(.c (.d (.sc (.int .i64 16))))],(some (54,true)),0,0⟩,
 ⟨(some 60),.pick (.t 54) (.t 59) (.c (.d (.sc (.bool false)))),none,0,0⟩,
 ⟨(some 61),.mov (.t 60),none,0,0⟩,
 ⟨(some 62),.fieldAddr 3 (.t 5),(some (61,true)),0,0⟩,
 ⟨(some 63),.load 1 false (.t 62),(some (61,true)),0,0⟩,
 ⟨(some 64),.len (.t 63),(some (61,true)),0,0⟩,
 ⟨(some 65),.buildSlice 1 1 [(.sc (.int .i64 0))] [(0,(.t 64))],(some (61,true)),0,2⟩,
 ⟨(some 66),.callF 98 [(.t 65)],(some (61,true)),0,0⟩,
 ⟨(some 67),.pick (.t 61) (.t 66) (.c (.d (.sc (.bool false)))),none,0,0⟩,
 ⟨(some 4),.mov (.t 67),none,0,0⟩] false)
 .ret)
 (.seq
 (.region [⟨(some 69),.bin .eql (.t 15) (.c (.d (.sc (.int .u8 5)))),none,0,0⟩,
 ⟨(some 68),.mov (.t 69),none,0,0⟩] false)
 (.cond (.t 68)
 (.seq
 (.region [⟨(some 70),.mkSet,none,0,0⟩,
 ⟨(some 7),.mov (.t 70),none,0,0⟩] false)
 (.seq
 (.seq
 (.region [⟨(some 71),.fieldAddr 3 (.t 5),none,0,0⟩,
 ⟨(some 72),.load 1 false (.t 71),none,0,0⟩,
 ⟨(some 73),.len (.t 72),none,0,0⟩,
 ⟨(some 74),.mov (.c (.d (.sc (.int .i64 0)))),none,0,0⟩] false)
 (.block 1
 (.loop
 (.seq
 (.region [⟨(some 75),.bin .lss (.t 74) (.t 73),none,0,0⟩] false)
 (.seq
 (.cond (.t 75)
 .skip
 (.exit 1))
 (.seq
 (.block 2
 (.seq
 (.region [⟨(some 76),.indexAddr 2 (.t 72) (.t 74),none,0,0⟩,
 ⟨(some 77),.load 2 true (.t 76),none,0,0⟩,
 ⟨(some 9),.alloc [(.d (.sc (.string ⟨#[]⟩))),(.d (.sc (.int .i64 0)))],none,0,0⟩,
 ⟨none,.store 2 (.t 9) (.t 77),none,0,0⟩] false)
 (.seq
 (.seq
 (.region [⟨(some 78),.fieldAddr 0 (.t 9),none,0,0⟩,
 ⟨(some 79),.load 1 false (.t 78),none,0,0⟩,
 ⟨(some 80),.callF 99 [(.t 79)],none,0,0⟩,
 ⟨(some 81),.un .not (.t 80),none,0,0⟩,
 ⟨(some 82),.mov (.t 81),none,0,0⟩,
 ⟨(some 83),.mov (.t 7),(some (82,false)),0,0⟩,
 ⟨(some 84),.fieldAddr 0 (.t 9),(some (82,false)),0,0⟩,
 ⟨(some 85),.load 1 false (.t 84),(some (82,false)),0,0⟩,
 ⟨(some 86),.hasK (.t 83) (.t 85),(some (82,false)),0,0⟩,
 ⟨(some 87),.pick (.t 82) (.c (.d (.sc (.bool true)))) (.t 86),none,0,0⟩,
 ⟨(some 88),.mov (.t 87),none,0,0⟩,
 ⟨(some 89),.mov (.t 6),(some (88,false)),0,0⟩,
 ⟨(some 90),.fieldAddr 1 (.t 9),(some (88,false)),0,0⟩,
 ⟨(some 91),.load 1 false (.t 90),(some (88,false)),0,0⟩,
 ⟨(some 92),.mov (.t 1),(some (88,false)),0,0⟩,
 ⟨(some 93),.callv (.t 89) [(.t 91),(.t 92)],(some (88,false)),0,0⟩,
 ⟨(some 94),.un .not (.t 93),(some (88,false)),0,0⟩,
 ⟨(some 95),.pick (.t 88) (.c (.d (.sc (.bool true)))) (.t 94),none,0,0⟩] false)
 (.cond (.t 95)
 (.seq
 (.region [⟨(some 4),.mov (.c (.d (.sc (.bool false)))),none,0,0⟩] false)
 .ret)
 .skip))
 (.region [⟨(some 96),.mov (.t 7),none,0,0⟩,
 ⟨(some 97),.fieldAddr 0 (.t 9),none,0,0⟩,
 ⟨(some 98),.load 1 false (.t 97),none,0,0⟩,
 ⟨none,.addK (.t 96) (.t 98),none,0,0⟩] false))))
 (.region [⟨(some 99),.bin .add (.t 74) (.c (.d (.sc (.int .i64 1)))),none,0,0⟩,
 ⟨(some 74),.mov (.t 99),none,0,0⟩] false)))))))
 (.seq
 (.region [⟨(some 100),.fieldAddr 1 (.t 5),none,0,0⟩,
 ⟨(some 101),.load 1 false (.t 100),none,0,0⟩,
 ⟨(some 102),.fieldAddr 2 (.t 5),none,0,0⟩,
 ⟨(some 103),.load 1 false (.t 102),none,0,0⟩,
 ⟨(some 104),.buildSlice 1 2 [(.sc (.int .i64 0))] [(0,(.t 101)),(1,(.t 103))],none,0,2⟩,
 ⟨(some 105),.callF 98 [(.t 104)],none,0,0⟩,
 ⟨(some 106),.mov (.t 105),none,0,0⟩,
 ⟨(some 107),.fieldAddr 3 (.t 5),(some (106,true)),0,0⟩,
 ⟨(some 108),.load 1 false (.t 107),(some (106,true)),0,0⟩,
 ⟨(some 109),.len (.t 108),(some (106,true)),0,0⟩,
 ⟨(some 110),.bin .gtr (.t 109) (.c (.d (.sc (.int .i64 0)))),(some (106,true)),0,0⟩,
 ⟨(some 111),.pick (.t 106) (.t 110) (.c (.d (.sc (.bool false)))),none,0,0⟩,
 ⟨(some 112),.mov (.t 111),none,0,0⟩,
 ⟨(some 113),.fieldAddr 3 (.t 5),(some (112,true)),0,0⟩,
 ⟨(some 114),.load 1 false (.t 113),(some (112,true)),0,0⟩,
 ⟨(some 115),.len (.t 114),(some (112,true)),0,0⟩,
 ⟨(some 116),.bin .leq (.t 115) (.c (.d (.sc (.int .i64 8)))),(some (112,true)),0,0⟩,
 ⟨(some 117),.pick (.t 112) (.t 116) (.c (.d (.sc (.bool false)))),none,0,0⟩,
 ⟨(some 4),.mov (.t 117),none,0,0⟩] false)
 .ret)))
 .skip))))))))))
 (.seq
 (.region [⟨(some 4),.mov (.c (.d (.sc (.bool false)))),none,0,0⟩] false)
 .ret))))),false⟩
def t86:AFn:=⟨1,82,[.t 2],
 (.seq
 (.region [⟨(some 2),.mov (.c (.own [] .full)),none,0,0⟩] false)
 (.seq
 (.region [⟨(some 10),.mov (.t 0),none,0,0⟩,
 ⟨(some 11),.len (.t 10),none,0,0⟩,
 ⟨(some 12),.makeSlice 1 8 [(.sc (.int .i64 0))] (.t 11) (.t 11),none,0,0⟩,
 ⟨(some 3),.mov (.t 12),none,0,6⟩] false)
 (.seq
 (.seq
 (.region [⟨(some 13),.mov (.c (.d (.sc (.int .i64 0)))),none,0,0⟩] false)
 (.block 0
 (.loop
 (.seq
 (.region [⟨(some 14),.bin .lss (.t 13) (.c (.d (.sc (.int .i64 4)))),none,0,0⟩] false)
 (.seq
 (.cond (.t 14)
 .skip
 (.exit 0))
 (.seq
 (.block 1
 (.seq
 (.region [⟨(some 15),.mov (.t 0),none,0,0⟩,
 ⟨(some 16),.len (.t 15),none,0,0⟩,
 ⟨(some 17),.makeSlice 1 8 [(.sc (.int .i64 0))] (.t 16) (.t 16),none,0,1⟩,
 ⟨(some 4),.mov (.t 17),none,0,0⟩] false)
 (.seq
 (.seq
 (.region [⟨(some 18),.mov (.t 0),none,0,0⟩,
 ⟨(some 19),.len (.t 18),none,0,0⟩,
 ⟨(some 20),.mov (.c (.d (.sc (.int .i64 0)))),none,0,0⟩] false)
 (.block 2
 (.loop
 (.seq
 (.region [⟨(some 21),.bin .lss (.t 20) (.t 19),none,0,0⟩] false)
 (.seq
 (.cond (.t 21)
 .skip
 (.exit 2))
 (.seq
 (.block 3
 (.seq
 (.region [⟨(some 22),.mov (.t 20),none,0,0⟩,
 ⟨(some 23),.indexAddr 4 (.t 18) (.t 20),none,0,0⟩,
 ⟨(some 24),.load 4 true (.t 23),none,0,0⟩,
 ⟨(some 6),.alloc [(.d (.sc (.int .u8 0))),(.d (.sc (.int .i64 0))),(.d (.sc (.int .i64 0))),(.own [] .full)],none,0,0⟩,
 ⟨(some 5),.mov (.t 22),none,0,0⟩,
 ⟨none,.store 4 (.t 6) (.t 24),none,0,0⟩] false)
 (.seq
 (.region [⟨(some 7),.mov (.c (.d (.sc (.int .i64 1)))),none,0,0⟩] false)
 (.seq
 (.seq
 (.region [⟨(some 25),.fieldAddr 0 (.t 6),none,0,0⟩,
 ⟨(some 26),.load 1 false (.t 25),none,0,0⟩] false)
 (.block 4
 (.seq
 (.region [⟨(some 28),.bin .eql (.t 26) (.c (.d (.sc (.int .u8 4)))),none,0,0⟩,
 ⟨(some 27),.mov (.t 28),none,0,0⟩] false)
 (.cond (.t 27)
 (.region [⟨(some 29),.mov (.t 7),none,0,0⟩,
 ⟨(some 30),.mov (.t 3),none,0,0⟩,
 ⟨(some 31),.fieldAddr 1 (.t 6),none,0,0⟩,
 ⟨(some 32),.load 1 false (.t 31),none,0,0⟩,
 ⟨(some 33),.indexAddr 1 (.t 30) (.t 32),none,0,0⟩,
 ⟨(some 34),.load 1 false (.t 33),none,0,0⟩,
 ⟨(some 35),.bin .add (.t 29) (.t 34),none,0,0⟩,
 ⟨(some 7),.mov (.t 35),none,0,0⟩] false)
 (.seq
 (.region [⟨(some 37),.bin .eql (.t 26) (.c (.d (.sc (.int .u8 7)))),none,0,0⟩,
 ⟨(some 36),.mov (.t 37),none,0,0⟩] false)
 (.cond (.t 36)
 (.region [⟨(some 38),.mov (.t 7),none,0,0⟩,
 ⟨(some 39),.mov (.t 3),none,0,0⟩,
 ⟨(some 40),.fieldAddr 1 (.t 6),none,0,0⟩,
 ⟨(some 41),.load 1 false (.t 40),none,0,0⟩,
 ⟨(some 42),.indexAddr 1 (.t 39) (.t 41),none,0,0⟩,
 ⟨(some 43),.load 1 false (.t 42),none,0,0⟩,
 ⟨(some 44),.bin .mul (.c (.d (.sc (.int .i64 16)))) (.t 43),none,0,0⟩,
 ⟨(some 45),.bin .add (.t 38) (.t 44),none,0,0⟩,
 ⟨(some 7),.mov (.t 45),none,0,0⟩] false)
 (.seq
 (.region [⟨(some 47),.bin .eql (.t 26) (.c (.d (.sc (.int .u8 6)))),none,0,0⟩,
 ⟨(some 46),.mov (.t 47),none,0,0⟩] false)
 (.cond (.t 46)
 (.region [⟨(some 48),.mov (.t 7),none,0,0⟩,
 ⟨(some 49),.fieldAddr 2 (.t 6),none,0,0⟩,
 ⟨(some 50),.load 1 false (.t 49),none,2,0⟩,
 ⟨(some 51),.mov (.t 4),none,0,0⟩,
 ⟨(some 52),.fieldAddr 1 (.t 6),none,0,0⟩,
 ⟨(some 53),.load 1 false (.t 52),none,16,0⟩,
 ⟨(some 54),.indexAddr 1 (.t 51) (.t 53),none,56,0⟩,
 ⟨(some 55),.load 1 false (.t 54),none,120,0⟩,
 ⟨(some 56),.bin .mul (.t 50) (.t 55),none,254,0⟩,
 ⟨(some 57),.bin .add (.t 48) (.t 56),none,511,0⟩,
 ⟨(some 7),.mov (.t 57),none,1023,0⟩] true)
 .skip))))))))
 (.seq
 (.seq
 (.region [⟨(some 58),.fieldAddr 3 (.t 6),none,0,0⟩,
 ⟨(some 59),.load 1 false (.t 58),none,0,0⟩,
 ⟨(some 60),.len (.t 59),none,0,0⟩,
 ⟨(some 61),.mov (.c (.d (.sc (.int .i64 0)))),none,0,0⟩] false)
 (.block 5
 (.loop
 (.seq
 (.region [⟨(some 62),.bin .lss (.t 61) (.t 60),none,0,0⟩] false)
 (.seq
 (.cond (.t 62)
 .skip
 (.exit 5))
 (.seq
 (.block 6
 (.seq
 (.region [⟨(some 63),.indexAddr 2 (.t 59) (.t 61),none,0,0⟩,
 ⟨(some 64),.load 2 true (.t 63),none,0,0⟩,
 ⟨(some 9),.alloc [(.d (.sc (.string ⟨#[]⟩))),(.d (.sc (.int .i64 0)))],none,0,0⟩,
 ⟨none,.store 2 (.t 9) (.t 64),none,0,0⟩] false)
 (.region [⟨(some 65),.mov (.t 7),none,0,0⟩,
 ⟨(some 66),.mov (.t 4),none,0,0⟩,
 ⟨(some 67),.fieldAddr 1 (.t 9),none,0,0⟩,
 ⟨(some 68),.load 1 false (.t 67),none,0,0⟩,
 ⟨(some 69),.indexAddr 1 (.t 66) (.t 68),none,0,0⟩,
 ⟨(some 70),.load 1 false (.t 69),none,0,0⟩,
 ⟨(some 71),.bin .add (.t 65) (.t 70),none,0,0⟩,
 ⟨(some 7),.mov (.t 71),none,0,0⟩] false)))
 (.region [⟨(some 72),.bin .add (.t 61) (.c (.d (.sc (.int .i64 1)))),none,0,0⟩,
 ⟨(some 61),.mov (.t 72),none,0,0⟩] false)))))))
 (.region [⟨(some 73),.mov (.t 4),none,0,0⟩,
 ⟨(some 74),.mov (.t 5),none,0,0⟩,
 ⟨(some 75),.mov (.t 7),none,0,0⟩,
 ⟨(some 76),.mini (.t 75) (.c (.d (.sc (.int .i64 5001)))),none,0,0⟩,
 ⟨(some 77),.indexAddr 1 (.t 73) (.t 74),none,0,0⟩,
 ⟨none,.store 1 (.t 77) (.t 76),none,0,0⟩] false))))))
 (.region [⟨(some 78),.bin .add (.t 20) (.c (.d (.sc (.int .i64 1)))),none,0,0⟩,
 ⟨(some 20),.mov (.t 78),none,0,0⟩] false)))))))
 (.region [⟨(some 79),.mov (.t 4),none,0,0⟩,
 ⟨(some 3),.mov (.t 79),none,0,6⟩] false))))
 (.region [⟨(some 80),.bin .add (.t 13) (.c (.d (.sc (.int .i64 1)))),none,0,0⟩,
 ⟨(some 13),.mov (.t 80),none,0,0⟩] false)))))))
 (.seq
 (.region [⟨(some 81),.mov (.t 3),none,0,0⟩,
 ⟨(some 2),.mov (.t 81),none,0,0⟩] false)
 .ret)))),false⟩
def t87:AFn:=⟨1,14,[.t 2],
 (.seq
 (.region [⟨(some 2),.mov (.c (.d (.sc (.bool false)))),none,0,0⟩] false)
 (.seq
 (.region [⟨(some 3),.mov (.t 0),none,0,0⟩,
 ⟨(some 4),.bin .geq (.t 3) (.c (.d (.sc (.int .u64 8)))),none,0,0⟩,
 ⟨(some 5),.mov (.t 4),none,0,0⟩,
 ⟨(some 6),.mov (.t 0),(some (5,true)),0,0⟩,
 ⟨(some 7),.bin .leq (.t 6) (.c (.d (.sc (.int .u64 1099511627776)))),(some (5,true)),0,0⟩,
 ⟨(some 8),.pick (.t 5) (.t 7) (.c (.d (.sc (.bool false)))),none,0,0⟩,
 ⟨(some 9),.mov (.t 8),none,0,0⟩,
 ⟨(some 10),.mov (.t 0),(some (9,true)),0,0⟩,
 ⟨(some 11),.bin .rem (.t 10) (.c (.d (.sc (.int .u64 8)))),(some (9,true)),0,0⟩,
 ⟨(some 12),.bin .eql (.t 11) (.c (.d (.sc (.int .u64 0)))),(some (9,true)),0,0⟩,
 ⟨(some 13),.pick (.t 9) (.t 12) (.c (.d (.sc (.bool false)))),none,0,0⟩,
 ⟨(some 2),.mov (.t 13),none,0,0⟩] false)
 .ret)),false⟩
def t88:AFn:=⟨2,95,[.t 4],
 (.seq
 (.region [⟨(some 3),.box (.t 1),none,0,0⟩,
 ⟨(some 4),.mov (.c (.d (.sc (.bool false)))),none,0,0⟩] false)
 (.seq
 (.seq
 (.region [⟨(some 9),.fieldAddr 0 (.t 3),none,0,0⟩,
 ⟨(some 10),.load 1 false (.t 9),none,0,0⟩,
 ⟨(some 11),.callF 99 [(.t 10)],none,0,0⟩,
 ⟨(some 12),.un .not (.t 11),none,0,0⟩,
 ⟨(some 13),.mov (.t 12),none,0,0⟩,
 ⟨(some 14),.fieldAddr 3 (.t 3),(some (13,false)),0,0⟩,
 ⟨(some 15),.load 1 false (.t 14),(some (13,false)),0,0⟩,
 ⟨(some 16),.len (.t 15),(some (13,false)),0,0⟩,
 ⟨(some 17),.bin .gtr (.t 16) (.c (.d (.sc (.int .i64 16)))),(some (13,false)),0,0⟩,
 ⟨(some 18),.pick (.t 13) (.c (.d (.sc (.bool true)))) (.t 17),none,0,0⟩,
 ⟨(some 19),.mov (.t 18),none,0,0⟩,
 ⟨(some 20),.fieldAddr 3 (.t 3),(some (19,false)),0,0⟩,
 ⟨(some 21),.load 1 false (.t 20),(some (19,false)),0,0⟩,
 ⟨(some 22),.callF 100 [(.t 21)],(some (19,false)),0,0⟩,
 ⟨(some 23),.un .not (.t 22),(some (19,false)),0,0⟩,
 ⟨(some 24),.pick (.t 19) (.c (.d (.sc (.bool true)))) (.t 23),none,0,0⟩,
 ⟨(some 25),.mov (.t 24),none,0,0⟩,
 ⟨(some 26),.fieldAddr 1 (.t 3),(some (25,false)),0,0⟩,
 ⟨(some 27),.load 1 false (.t 26),(some (25,false)),0,0⟩,
 ⟨(some 28),.bin .lss (.t 27) (.c (.d (.sc (.int .i64 0)))),(some (25,false)),0,0⟩,
 ⟨(some 29),.pick (.t 25) (.c (.d (.sc (.bool true)))) (.t 28),none,0,0⟩,
 ⟨(some 30),.mov (.t 29),none,0,0⟩,
 ⟨(some 31),.fieldAddr 1 (.t 3),(some (30,false)),0,0⟩,
 ⟨(some 32),.load 1 false (.t 31),(some (30,false)),0,0⟩,
 ⟨(some 33),.fieldAddr 3 (.t 3),(some (30,false)),0,0⟩,
 ⟨(some 34),.load 1 false (.t 33),(some (30,false)),0,0⟩,
 ⟨(some 35),.len (.t 34),(some (30,false)),0,0⟩,
 ⟨(some 36),.bin .gtr (.t 32) (.t 35),(some (30,false)),0,0⟩,
 ⟨(some 37),.pick (.t 30) (.c (.d (.sc (.bool true)))) (.t 36),none,0,0⟩,
 ⟨(some 38),.mov (.t 37),none,0,0⟩,
 ⟨(some 39),.fieldAddr 2 (.t 3),(some (38,false)),0,0⟩,
 ⟨(some 40),.load 1 false (.t 39),(some (38,false)),0,0⟩,
 ⟨(some 41),.bin .lss (.t 40) (.c (.d (.sc (.int .i64 (-1))))),(some (38,false)),0,0⟩,
 ⟨(some 42),.pick (.t 38) (.c (.d (.sc (.bool true)))) (.t 41),none,0,0⟩,
 ⟨(some 43),.mov (.t 42),none,0,0⟩,
 ⟨(some 44),.fieldAddr 2 (.t 3),(some (43,false)),0,0⟩,
 ⟨(some 45),.load 1 false (.t 44),(some (43,false)),0,0⟩,
 ⟨(some 46),.mov (.t 0),(some (43,false)),0,0⟩,
 ⟨(some 47),.len (.t 46),(some (43,false)),0,0⟩,
 ⟨(some 48),.bin .geq (.t 45) (.t 47),(some (43,false)),0,0⟩,
 ⟨(some 49),.pick (.t 43) (.c (.d (.sc (.bool true)))) (.t 48),none,0,0⟩] false)
 (.cond (.t 49)
 (.seq
 (.region [⟨(some 4),.mov (.c (.d (.sc (.bool false)))),none,0,0⟩] false)
 .ret)
 .skip))
 (.seq
 (.seq
 (.region [⟨(some 50),.fieldAddr 3 (.t 3),none,0,0⟩,
 ⟨(some 51),.load 1 false (.t 50),none,0,0⟩,
 ⟨(some 52),.len (.t 51),none,0,0⟩,
 ⟨(some 53),.mov (.c (.d (.sc (.int .i64 0)))),none,0,0⟩] false)
 (.block 0
 (.loop
 (.seq
 (.region [⟨(some 54),.bin .lss (.t 53) (.t 52),none,0,0⟩] false)
 (.seq
 (.cond (.t 54)
 .skip
 (.exit 0))
 (.seq
 (.block 1
 (.seq
 (.region [⟨(some 55),.indexAddr 2 (.t 51) (.t 53),none,0,0⟩,
 ⟨(some 56),.load 2 true (.t 55),none,0,0⟩,
 ⟨(some 6),.alloc [(.d (.sc (.string ⟨#[]⟩))),(.d (.sc (.int .i64 0)))],none,0,0⟩,
 ⟨none,.store 2 (.t 6) (.t 56),none,0,0⟩] false)
 (.seq
 (.region [⟨(some 57),.fieldAddr 1 (.t 6),none,0,0⟩,
 ⟨(some 58),.load 1 false (.t 57),none,0,0⟩,
 ⟨(some 59),.bin .lss (.t 58) (.c (.d (.sc (.int .i64 0)))),none,0,0⟩,
 ⟨(some 60),.mov (.t 59),none,0,0⟩,
 ⟨(some 61),.fieldAddr 1 (.t 6),(some (60,false)),0,0⟩,
 ⟨(some 62),.load 1 false (.t 61),(some (60,false)),0,0⟩,
 ⟨(some 63),.mov (.t 0),(some (60,false)),0,0⟩,
 ⟨(some 64),.len (.t 63),(some (60,false)),0,0⟩,
 ⟨(some 65),.bin .geq (.t 62) (.t 64),(some (60,false)),0,0⟩,
 ⟨(some 66),.pick (.t 60) (.c (.d (.sc (.bool true)))) (.t 65),none,0,0⟩] false)
 (.cond (.t 66)
 (.seq
 (.region [⟨(some 4),.mov (.c (.d (.sc (.bool false)))),none,0,0⟩] false)
 .ret)
 .skip))))
 (.region [⟨(some 67),.bin .add (.t 53) (.c (.d (.sc (.int .i64 1)))),none,0,0⟩,
 ⟨(some 53),.mov (.t 67),none,0,0⟩] false)))))))
 (.seq
 (.seq
 (.region [⟨(some 68),.fieldAddr 4 (.t 3),none,0,0⟩,
 ⟨(some 69),.load 1 false (.t 68),none,0,0⟩,
 ⟨(some 70),.len (.t 69),none,0,0⟩,
 ⟨(some 71),.mov (.c (.d (.sc (.int .i64 0)))),none,0,0⟩] false)
 (.block 2
 (.loop
 (.seq
 (.region [⟨(some 72),.bin .lss (.t 71) (.t 70),none,0,0⟩] false)
 (.seq
 (.cond (.t 72)
 .skip
 (.exit 2))
 (.seq
 (.block 3
 (.seq
 (.region [⟨(some 73),.indexAddr 4 (.t 69) (.t 71),none,0,0⟩,
 ⟨(some 74),.load 4 true (.t 73),none,0,0⟩,
 ⟨(some 8),.alloc [(.d (.sc (.int .u8 0))),(.d (.sc (.int .i64 0))),(.d (.sc (.int .i64 0))),(.d (.sc (.int .i64 0)))],none,0,0⟩,
 ⟨none,.store 4 (.t 8) (.t 74),none,0,0⟩] false)
 (.seq
 (.region [⟨(some 75),.load 4 true (.t 8),none,0,0⟩,
 ⟨(some 76),.callF 101 [(.t 75)],none,0,0⟩,
 ⟨(some 77),.bin .neq (.t 76) (.c (.d (.sc (.int .i64 0)))),none,0,0⟩] false)
 (.cond (.t 77)
 (.seq
 (.region [⟨(some 4),.mov (.c (.d (.sc (.bool false)))),none,0,0⟩] false)
 .ret)
 .skip))))
 (.region [⟨(some 78),.bin .add (.t 71) (.c (.d (.sc (.int .i64 1)))),none,0,0⟩,
 ⟨(some 71),.mov (.t 78),none,0,0⟩] false)))))))
 (.seq
 (.region [⟨(some 79),.fieldAddr 5 (.t 3),none,0,0⟩,
 ⟨(some 80),.load 1 false (.t 79),none,0,0⟩,
 ⟨(some 81),.fieldAddr 4 (.t 3),none,0,0⟩,
 ⟨(some 82),.load 1 false (.t 81),none,0,0⟩,
 ⟨(some 83),.len (.t 82),none,0,0⟩,
 ⟨(some 84),.callF 46 [(.t 80),(.t 83)],none,0,0⟩,
 ⟨(some 85),.bin .eql (.t 84) (.c (.d (.sc (.int .i64 0)))),none,0,0⟩,
 ⟨(some 86),.mov (.t 85),none,0,0⟩,
 ⟨(some 87),.fieldAddr 6 (.t 3),(some (86,true)),0,0⟩,
 ⟨(some 88),.load 1 false (.t 87),(some (86,true)),0,0⟩,
 ⟨(some 89),.fieldAddr 4 (.t 3),(some (86,true)),0,0⟩,
 ⟨(some 90),.load 1 false (.t 89),(some (86,true)),0,0⟩,
 ⟨(some 91),.len (.t 90),(some (86,true)),0,0⟩,
 ⟨(some 92),.callF 46 [(.t 88),(.t 91)],(some (86,true)),0,0⟩,
 ⟨(some 93),.bin .eql (.t 92) (.c (.d (.sc (.int .i64 0)))),(some (86,true)),0,0⟩,
 ⟨(some 94),.pick (.t 86) (.t 93) (.c (.d (.sc (.bool false)))),none,0,0⟩,
 ⟨(some 4),.mov (.t 94),none,0,0⟩] false)
 .ret))))),false⟩
def t89:AFn:=⟨2,25,[],
 (.seq
 (.region [⟨(some 6),.mov (.t 0),none,0,0⟩,
 ⟨(some 7),.mov (.t 1),none,0,0⟩,
 ⟨(some 8),.len (.t 7),none,0,0⟩,
 ⟨(some 9),.callF 69 [(.t 6),(.t 8)],none,0,0⟩] false)
 (.seq
 (.region [⟨(some 10),.mov (.t 1),none,0,0⟩,
 ⟨(some 11),.len (.t 10),none,0,0⟩,
 ⟨(some 12),.mov (.c (.d (.sc (.int .i64 0)))),none,0,0⟩] false)
 (.block 0
 (.loop
 (.seq
 (.region [⟨(some 13),.bin .lss (.t 12) (.t 11),none,0,0⟩] false)
 (.seq
 (.cond (.t 13)
 .skip
 (.exit 0))
 (.seq
 (.block 1
 (.seq
 (.region [⟨(some 14),.indexAddr 2 (.t 10) (.t 12),none,0,0⟩,
 ⟨(some 15),.load 2 true (.t 14),none,0,0⟩,
 ⟨(some 5),.alloc [(.d (.sc (.string ⟨#[]⟩))),(.d (.sc (.int .i64 0)))],none,0,0⟩,
 ⟨none,.store 2 (.t 5) (.t 15),none,0,0⟩] false)
 (.seq
 (.region [⟨(some 16),.mov (.t 0),none,0,0⟩,
 ⟨(some 17),.fieldAddr 0 (.t 5),none,0,0⟩,
 ⟨(some 18),.load 1 false (.t 17),none,0,0⟩,
 ⟨(some 19),.callF 70 [(.t 16),(.t 18)],none,0,0⟩] false)
 (.region [⟨(some 20),.mov (.t 0),none,0,0⟩,
 ⟨(some 21),.fieldAddr 1 (.t 5),none,0,0⟩,
 ⟨(some 22),.load 1 false (.t 21),none,0,0⟩,
 ⟨(some 23),.callF 69 [(.t 20),(.t 22)],none,0,0⟩] false))))
 (.region [⟨(some 24),.bin .add (.t 12) (.c (.d (.sc (.int .i64 1)))),none,0,0⟩,
 ⟨(some 12),.mov (.t 24),none,0,0⟩] false)))))))),true⟩
def t90:AFn:=⟨1,20,[.t 2],
 (.seq
 (.region [⟨(some 2),.mov (.c (.own [] .full)),none,0,65540⟩] false)
 (.seq
 (.region [⟨(some 3),.alloc [(.own [] .full)],none,0,0⟩] false)
 (.seq
 (.region [⟨(some 5),.makeFunc 102 [(.t 3)],none,0,0⟩,
 ⟨(some 4),.mov (.t 5),none,0,0⟩] false)
 (.seq
 (.block 0
 (.loop
 (.seq
 (.seq
 (.region [⟨(some 6),.mov (.t 0),none,0,0⟩,
 ⟨(some 7),.bin .geq (.t 6) (.c (.d (.sc (.int .u64 128)))),none,0,0⟩] false)
 (.cond (.t 7)
 .skip
 (.exit 0)))
 (.seq
 (.block 1
 (.region [⟨(some 10),.mov (.t 4),none,0,0⟩,
 ⟨(some 11),.mov (.t 0),none,0,0⟩,
 ⟨(some 12),.conv .u8 (.t 11),none,0,0⟩,
 ⟨(some 13),.bin .or (.t 12) (.c (.d (.sc (.int .u8 128)))),none,0,0⟩,
 ⟨(some 14),.callv (.t 10) [(.t 13)],none,0,0⟩] false))
 (.region [⟨(some 8),.mov (.t 0),none,0,0⟩,
 ⟨(some 9),.bin .shr (.t 8) (.c (.d (.sc (.int .u64 7)))),none,0,0⟩,
 ⟨(some 0),.mov (.t 9),none,0,0⟩] false)))))
 (.seq
 (.region [⟨(some 15),.mov (.t 4),none,0,0⟩,
 ⟨(some 16),.mov (.t 0),none,0,0⟩,
 ⟨(some 17),.conv .u8 (.t 16),none,0,0⟩,
 ⟨(some 18),.callv (.t 15) [(.t 17)],none,0,0⟩] false)
 (.seq
 (.region [⟨(some 19),.load 1 false (.t 3),none,0,0⟩,
 ⟨(some 2),.mov (.t 19),none,0,65540⟩] false)
 .ret)))))),false⟩
def t91:AFn:=⟨1,11,[.t 2],
 (.seq
 (.region [⟨(some 2),.mov (.c (.own [] .full)),none,0,0⟩] false)
 (.seq
 (.region [⟨(some 3),.mov (.t 0),none,0,0⟩,
 ⟨(some 4),.conv .u64 (.t 3),none,0,0⟩,
 ⟨(some 5),.bin .shl (.t 4) (.c (.d (.sc (.int .u64 1)))),none,0,0⟩,
 ⟨(some 6),.mov (.t 0),none,0,0⟩,
 ⟨(some 7),.bin .shr (.t 6) (.c (.d (.sc (.int .u64 63)))),none,0,0⟩,
 ⟨(some 8),.conv .u64 (.t 7),none,0,0⟩,
 ⟨(some 9),.bin .xor (.t 5) (.t 8),none,0,0⟩,
 ⟨(some 10),.call 90 [(.t 9)],none,0,0⟩,
 ⟨(some 2),.mov (.t 10),none,0,0⟩] false)
 .ret)),false⟩
def t92:AFn:=⟨1,51,[.t 2,.t 3],
 (.seq
 (.region [⟨(some 1),.box (.t 0),none,0,0⟩,
 ⟨(some 2),.mov (.c (.own [] .full)),none,0,0⟩,
 ⟨(some 3),.mov (.c (.d (.sc (.int .i64 0)))),none,0,0⟩] false)
 (.seq
 (.seq
 (.region [⟨(some 10),.load 4 true (.t 1),none,0,0⟩,
 ⟨(some 11),.callF 101 [(.t 10)],none,0,0⟩,
 ⟨(some 4),.mov (.t 11),none,0,0⟩] false)
 (.seq
 (.region [⟨(some 12),.mov (.t 4),none,0,0⟩,
 ⟨(some 13),.bin .neq (.t 12) (.c (.d (.sc (.int .i64 0)))),none,0,0⟩] false)
 (.cond (.t 13)
 (.seq
 (.region [⟨(some 14),.mov (.t 4),none,0,0⟩,
 ⟨(some 2),.mov (.c (.own [] .full)),none,0,0⟩,
 ⟨(some 3),.mov (.t 14),none,0,0⟩] false)
 .ret)
 .skip)))
 (.seq
 (.region [⟨(some 16),.fieldAddr 0 (.t 1),none,0,0⟩,
 ⟨(some 17),.load 1 false (.t 16),none,0,0⟩,
 ⟨(some 18),.callF 103 [(.t 17)],none,0,0⟩,
 ⟨(some 15),.mov (.t 18),none,0,0⟩,
 ⟨(some 19),.extract (.t 15) 0,none,0,0⟩,
 ⟨(some 20),.extract (.t 15) 1,none,0,0⟩,
 ⟨(some 5),.alloc [(.d (.sc (.int .i64 0))),(.d (.sc (.int .i64 0))),(.d (.sc (.bool false))),(.d (.sc (.bool false))),(.d (.sc (.int .i64 0))),(.d (.sc (.int .i64 0))),(.d (.sc (.bool false))),(.d (.sc (.bool false))),(.d (.sc (.int .i64 0))),(.d (.sc (.int .i64 0))),(.d (.sc (.bool false))),(.d (.sc (.bool false)))],none,0,0⟩,
 ⟨none,.store 12 (.t 5) (.t 19),none,0,0⟩,
 ⟨(some 6),.mov (.t 20),none,0,0⟩] false)
 (.seq
 (.region [⟨(some 21),.fieldAddr 0 (.t 1),none,0,0⟩,
 ⟨(some 22),.load 1 false (.t 21),none,0,0⟩,
 ⟨(some 23),.buildSlice 1 1 [(.sc (.int .u8 0))] [(0,(.t 22))],none,0,0⟩,
 ⟨(some 7),.mov (.t 23),none,0,0⟩] false)
 (.seq
 (.seq
 (.region [⟨(some 24),.load 4 true (.t 1),none,0,0⟩,
 ⟨(some 25),.callF 104 [(.t 24)],none,0,0⟩,
 ⟨(some 26),.mov (.c (.d (.sc (.int .i64 0)))),none,0,0⟩] false)
 (.block 0
 (.loop
 (.seq
 (.region [⟨(some 27),.bin .lss (.t 26) (.c (.d (.sc (.int .i64 3)))),none,0,0⟩] false)
 (.seq
 (.cond (.t 27)
 .skip
 (.exit 0))
 (.seq
 (.block 1
 (.seq
 (.region [⟨(some 28),.mov (.t 26),none,0,0⟩,
 ⟨(some 29),.indexA 3 1 false (.t 25) (.t 26),none,0,0⟩,
 ⟨(some 8),.mov (.t 28),none,0,0⟩,
 ⟨(some 9),.mov (.t 29),none,0,0⟩] false)
 (.block 2
 (.seq
 (.region [⟨(some 36),.mov (.t 8),none,0,0⟩,
 ⟨(some 37),.mov (.t 6),none,0,0⟩,
 ⟨(some 38),.bin .geq (.t 36) (.t 37),none,0,0⟩,
 ⟨(some 35),.mov (.t 38),none,0,0⟩] false)
 (.cond (.t 35)
 .skip
 (.seq
 (.region [⟨(some 40),.mov (.t 8),none,0,0⟩,
 ⟨(some 41),.indexArr 3 4 (.t 5) (.t 40),none,0,0⟩,
 ⟨(some 42),.fieldAddr 0 (.t 41),none,0,0⟩,
 ⟨(some 43),.load 1 false (.t 42),none,0,0⟩,
 ⟨(some 44),.bin .lss (.t 43) (.c (.d (.sc (.int .i64 0)))),none,0,0⟩,
 ⟨(some 39),.mov (.t 44),none,0,0⟩] false)
 (.cond (.t 39)
 (.region [⟨(some 45),.mov (.t 7),none,0,0⟩,
 ⟨(some 46),.mov (.t 9),none,0,0⟩,
 ⟨(some 47),.call 91 [(.t 46)],none,0,0⟩,
 ⟨(some 48),.append 1 1 (.t 45) (.t 47),none,0,0⟩,
 ⟨(some 7),.mov (.t 48),none,0,0⟩] false)
 (.region [⟨(some 30),.mov (.t 7),none,0,0⟩,
 ⟨(some 31),.mov (.t 9),none,0,0⟩,
 ⟨(some 32),.conv .u64 (.t 31),none,0,0⟩,
 ⟨(some 33),.call 90 [(.t 32)],none,0,0⟩,
 ⟨(some 34),.append 1 1 (.t 30) (.t 33),none,0,0⟩,
 ⟨(some 7),.mov (.t 34),none,0,0⟩] false))))))))
 (.region [⟨(some 49),.bin .add (.t 26) (.c (.d (.sc (.int .i64 1)))),none,0,0⟩,
 ⟨(some 26),.mov (.t 49),none,0,0⟩] false)))))))
 (.seq
 (.region [⟨(some 50),.mov (.t 7),none,0,0⟩,
 ⟨(some 2),.mov (.t 50),none,0,0⟩,
 ⟨(some 3),.mov (.c (.d (.sc (.int .i64 0)))),none,0,0⟩] false)
 .ret)))))),false⟩
def t93:AFn:=⟨2,44,[.t 4,.t 5],
 (.seq
 (.region [⟨(some 4),.mov (.c (.own [] .full)),none,0,0⟩,
 ⟨(some 5),.mov (.c (.d (.sc (.int .i64 0)))),none,0,0⟩] false)
 (.seq
 (.seq
 (.region [⟨(some 11),.mov (.t 0),none,0,0⟩,
 ⟨(some 12),.mov (.t 1),none,0,0⟩,
 ⟨(some 13),.callF 46 [(.t 11),(.t 12)],none,0,0⟩,
 ⟨(some 6),.mov (.t 13),none,0,0⟩] false)
 (.seq
 (.region [⟨(some 14),.mov (.t 6),none,0,0⟩,
 ⟨(some 15),.bin .neq (.t 14) (.c (.d (.sc (.int .i64 0)))),none,0,0⟩] false)
 (.cond (.t 15)
 (.seq
 (.region [⟨(some 16),.mov (.t 6),none,0,0⟩,
 ⟨(some 4),.mov (.c (.own [] .full)),none,0,0⟩,
 ⟨(some 5),.mov (.t 16),none,0,0⟩] false)
 .ret)
 .skip)))
 (.seq
 (.region [⟨(some 17),.mov (.t 0),none,0,0⟩,
 ⟨(some 18),.len (.t 17),none,0,0⟩,
 ⟨(some 19),.conv .u64 (.t 18),none,0,0⟩,
 ⟨(some 20),.call 90 [(.t 19)],none,0,65537⟩,
 ⟨(some 7),.mov (.t 20),none,0,0⟩] false)
 (.seq
 (.region [⟨(some 8),.mov (.c (.d (.sc (.int .i64 0)))),none,0,0⟩] false)
 (.seq
 (.seq
 (.region [⟨(some 21),.mov (.t 0),none,0,0⟩,
 ⟨(some 22),.len (.t 21),none,0,0⟩,
 ⟨(some 23),.mov (.c (.d (.sc (.int .i64 0)))),none,0,0⟩] false)
 (.block 0
 (.loop
 (.seq
 (.region [⟨(some 24),.bin .lss (.t 23) (.t 22),none,0,0⟩] false)
 (.seq
 (.cond (.t 24)
 .skip
 (.exit 0))
 (.seq
 (.block 1
 (.seq
 (.region [⟨(some 25),.indexAddr 2 (.t 21) (.t 23),none,0,0⟩,
 ⟨(some 26),.load 2 true (.t 25),none,0,0⟩,
 ⟨(some 10),.alloc [(.d (.sc (.int .i64 0))),(.d (.sc (.int .u64 0)))],none,0,0⟩,
 ⟨none,.store 2 (.t 10) (.t 26),none,0,0⟩] false)
 (.seq
 (.region [⟨(some 27),.mov (.t 7),none,0,0⟩,
 ⟨(some 28),.fieldAddr 0 (.t 10),none,0,0⟩,
 ⟨(some 29),.load 1 false (.t 28),none,0,0⟩,
 ⟨(some 30),.mov (.t 8),none,0,0⟩,
 ⟨(some 31),.bin .sub (.t 29) (.t 30),none,0,0⟩,
 ⟨(some 32),.conv .u64 (.t 31),none,0,0⟩,
 ⟨(some 33),.call 90 [(.t 32)],none,0,0⟩,
 ⟨(some 34),.append 1 1 (.t 27) (.t 33),none,0,0⟩,
 ⟨(some 7),.mov (.t 34),none,0,0⟩] false)
 (.seq
 (.region [⟨(some 35),.mov (.t 7),none,0,0⟩,
 ⟨(some 36),.fieldAddr 1 (.t 10),none,0,0⟩,
 ⟨(some 37),.load 1 false (.t 36),none,0,0⟩,
 ⟨(some 38),.call 90 [(.t 37)],none,0,0⟩,
 ⟨(some 39),.append 1 1 (.t 35) (.t 38),none,0,0⟩,
 ⟨(some 7),.mov (.t 39),none,0,0⟩] false)
 (.region [⟨(some 40),.fieldAddr 0 (.t 10),none,0,0⟩,
 ⟨(some 41),.load 1 false (.t 40),none,0,0⟩,
 ⟨(some 8),.mov (.t 41),none,0,0⟩] false)))))
 (.region [⟨(some 42),.bin .add (.t 23) (.c (.d (.sc (.int .i64 1)))),none,0,0⟩,
 ⟨(some 23),.mov (.t 42),none,0,0⟩] false)))))))
 (.seq
 (.region [⟨(some 43),.mov (.t 7),none,0,0⟩,
 ⟨(some 4),.mov (.t 43),none,0,0⟩,
 ⟨(some 5),.mov (.c (.d (.sc (.int .i64 0)))),none,0,0⟩] false)
 .ret)))))),false⟩
def t97:AFn:=⟨2,12,[.t 4],
 (.seq
 (.region [⟨(some 4),.mov (.c (.d (.sc (.bool false)))),none,0,0⟩] false)
 (.seq
 (.region [⟨(some 5),.mov (.t 0),none,0,0⟩,
 ⟨(some 6),.bin .geq (.t 5) (.c (.d (.sc (.int .i64 0)))),none,0,0⟩,
 ⟨(some 7),.mov (.t 6),none,0,0⟩,
 ⟨(some 8),.mov (.t 0),(some (7,true)),0,0⟩,
 ⟨(some 9),.mov (.t 1),(some (7,true)),0,0⟩,
 ⟨(some 10),.bin .lss (.t 8) (.t 9),(some (7,true)),0,0⟩,
 ⟨(some 11),.pick (.t 7) (.t 10) (.c (.d (.sc (.bool false)))),none,0,0⟩,
 ⟨(some 4),.mov (.t 11),none,0,0⟩] false)
 .ret)),false⟩
def t98:AFn:=⟨1,6,[.t 2],
 (.seq
 (.region [⟨(some 2),.mov (.c (.d (.sc (.bool false)))),none,0,0⟩] false)
 (.seq
 (.region [⟨(some 3),.mov (.t 0),none,0,0⟩,
 ⟨(some 4),.callF 105 [(.t 3),(.c (.clo 106 []))],none,0,0⟩,
 ⟨(some 5),.un .not (.t 4),none,0,0⟩,
 ⟨(some 2),.mov (.t 5),none,0,0⟩] false)
 .ret)),false⟩
def t99:AFn:=⟨1,47,[.t 2],
 (.seq
 (.region [⟨(some 2),.mov (.c (.d (.sc (.bool false)))),none,0,0⟩] false)
 (.seq
 (.seq
 (.region [⟨(some 5),.mov (.t 0),none,0,0⟩,
 ⟨(some 6),.lenS (.t 5),none,0,0⟩,
 ⟨(some 7),.bin .eql (.t 6) (.c (.d (.sc (.int .i64 0)))),none,0,0⟩,
 ⟨(some 8),.mov (.t 7),none,0,0⟩,
 ⟨(some 9),.mov (.t 0),(some (8,false)),0,0⟩,
 ⟨(some 10),.lenS (.t 9),(some (8,false)),0,0⟩,
 ⟨(some 11),.bin .gtr (.t 10) (.c (.d (.sc (.int .i64 16)))),(some (8,false)),0,0⟩,
 ⟨(some 12),.pick (.t 8) (.c (.d (.sc (.bool true)))) (.t 11),none,0,0⟩,
 ⟨(some 13),.mov (.t 12),none,0,0⟩,
 ⟨(some 14),.mov (.t 0),(some (13,false)),0,0⟩,
 ⟨(some 15),.indexS (.t 14) (.c (.d (.sc (.int .i64 0)))),(some (13,false)),0,0⟩,
 ⟨(some 16),.bin .leq (.t 15) (.c (.d (.sc (.int .u8 57)))),(some (13,false)),0,0⟩,
 ⟨(some 17),.pick (.t 13) (.c (.d (.sc (.bool true)))) (.t 16),none,0,0⟩] false)
 (.cond (.t 17)
 (.seq
 (.region [⟨(some 2),.mov (.c (.d (.sc (.bool false)))),none,0,0⟩] false)
 .ret)
 .skip))
 (.seq
 (.seq
 (.region [⟨(some 18),.mov (.t 0),none,0,0⟩,
 ⟨(some 19),.s2b (.t 18),none,0,0⟩,
 ⟨(some 20),.len (.t 19),none,0,0⟩,
 ⟨(some 21),.mov (.c (.d (.sc (.int .i64 0)))),none,0,0⟩] false)
 (.block 0
 (.loop
 (.seq
 (.region [⟨(some 22),.bin .lss (.t 21) (.t 20),none,0,0⟩] false)
 (.seq
 (.cond (.t 22)
 .skip
 (.exit 0))
 (.seq
 (.block 1
 (.seq
 (.region [⟨(some 23),.indexAddr 1 (.t 19) (.t 21),none,0,0⟩,
 ⟨(some 24),.load 1 false (.t 23),none,0,0⟩,
 ⟨(some 4),.mov (.t 24),none,0,0⟩] false)
 (.seq
 (.region [⟨(some 25),.mov (.t 4),none,0,0⟩,
 ⟨(some 26),.bin .or (.t 25) (.c (.d (.sc (.int .u8 32)))),none,0,0⟩,
 ⟨(some 27),.bin .lss (.t 26) (.c (.d (.sc (.int .u8 97)))),none,0,0⟩,
 ⟨(some 28),.mov (.t 27),none,0,0⟩,
 ⟨(some 29),.mov (.t 4),(some (28,false)),0,0⟩,
 ⟨(some 30),.bin .or (.t 29) (.c (.d (.sc (.int .u8 32)))),(some (28,false)),0,0⟩,
 ⟨(some 31),.bin .gtr (.t 30) (.c (.d (.sc (.int .u8 122)))),(some (28,false)),0,0⟩,
 ⟨(some 32),.pick (.t 28) (.c (.d (.sc (.bool true)))) (.t 31),none,0,0⟩,
 ⟨(some 33),.mov (.t 32),none,0,0⟩,
 ⟨(some 34),.mov (.t 4),(some (33,false)),0,0⟩,
 ⟨(some 35),.bin .and (.t 34) (.c (.d (.sc (.int .u8 64)))),(some (33,false)),0,0⟩,
 ⟨(some 36),.bin .eql (.t 35) (.c (.d (.sc (.int .u8 0)))),(some (33,false)),0,0⟩,
 ⟨(some 37),.pick (.t 33) (.c (.d (.sc (.bool true)))) (.t 36),none,0,0⟩,
 ⟨(some 38),.mov (.t 37),none,0,0⟩,
 ⟨(some 39),.mov (.t 4),(some (38,true)),0,0⟩,
 ⟨(some 40),.bin .lss (.t 39) (.c (.d (.sc (.int .u8 48)))),(some (38,true)),0,0⟩,
 ⟨(some 41),.mov (.t 40),(some (38,true)),0,0⟩,
 ⟨(some 42),.mov (.t 4),(some (41,false)),0,0⟩,
 ⟨(some 43),.bin .gtr (.t 42) (.c (.d (.sc (.int .u8 57)))),(some (41,false)),0,0⟩,
 ⟨(some 44),.pick (.t 41) (.c (.d (.sc (.bool true)))) (.t 43),(some (38,true)),0,0⟩,
 ⟨(some 45),.pick (.t 38) (.t 44) (.c (.d (.sc (.bool false)))),none,0,0⟩] false)
 (.cond (.t 45)
 (.seq
 (.region [⟨(some 2),.mov (.c (.d (.sc (.bool false)))),none,0,0⟩] false)
 .ret)
 .skip))))
 (.region [⟨(some 46),.bin .add (.t 21) (.c (.d (.sc (.int .i64 1)))),none,0,0⟩,
 ⟨(some 21),.mov (.t 46),none,0,0⟩] false)))))))
 (.seq
 (.region [⟨(some 2),.mov (.c (.d (.sc (.bool true)))),none,0,0⟩] false)
 .ret)))),false⟩
def t100:AFn:=⟨1,24,[.t 2],
 (.seq
 (.region [⟨(some 2),.mov (.c (.d (.sc (.bool false)))),none,0,0⟩] false)
 (.seq
 (.seq
 (.region [⟨(some 5),.mov (.t 0),none,0,0⟩,
 ⟨(some 6),.len (.t 5),none,0,0⟩,
 ⟨(some 7),.mov (.c (.d (.sc (.int .i64 0)))),none,0,0⟩] false)
 (.block 0
 (.loop
 (.seq
 (.region [⟨(some 8),.bin .lss (.t 7) (.t 6),none,0,0⟩] false)
 (.seq
 (.cond (.t 8)
 .skip
 (.exit 0))
 (.seq
 (.block 1
 (.seq
 (.region [⟨(some 9),.mov (.t 7),none,0,0⟩,
 ⟨(some 10),.indexAddr 2 (.t 5) (.t 7),none,0,0⟩,
 ⟨(some 11),.load 2 true (.t 10),none,0,0⟩,
 ⟨(some 4),.alloc [(.d (.sc (.string ⟨#[]⟩))),(.d (.sc (.int .i64 0)))],none,0,0⟩,
 ⟨(some 3),.mov (.t 9),none,0,0⟩,
 ⟨none,.store 2 (.t 4) (.t 11),none,0,0⟩] false)
 (.seq
 (.region [⟨(some 12),.fieldAddr 0 (.t 4),none,0,0⟩,
 ⟨(some 13),.load 1 false (.t 12),none,0,0⟩,
 ⟨(some 14),.callF 99 [(.t 13)],none,0,0⟩,
 ⟨(some 15),.un .not (.t 14),none,0,0⟩,
 ⟨(some 16),.mov (.t 15),none,0,0⟩,
 ⟨(some 17),.mov (.t 0),(some (16,false)),0,0⟩,
 ⟨(some 18),.mov (.t 3),(some (16,false)),0,0⟩,
 ⟨(some 19),.slice 2 (.t 17) none (some (.t 18)) none,(some (16,false)),0,0⟩,
 ⟨(some 20),.makeFunc 108 [(.t 4)],(some (16,false)),0,0⟩,
 ⟨(some 21),.callF 107 [(.t 19),(.t 20)],(some (16,false)),0,0⟩,
 ⟨(some 22),.pick (.t 16) (.c (.d (.sc (.bool true)))) (.t 21),none,0,0⟩] false)
 (.cond (.t 22)
 (.seq
 (.region [⟨(some 2),.mov (.c (.d (.sc (.bool false)))),none,0,0⟩] false)
 .ret)
 .skip))))
 (.region [⟨(some 23),.bin .add (.t 7) (.c (.d (.sc (.int .i64 1)))),none,0,0⟩,
 ⟨(some 7),.mov (.t 23),none,0,0⟩] false)))))))
 (.seq
 (.region [⟨(some 2),.mov (.c (.d (.sc (.bool true)))),none,0,0⟩] false)
 .ret))),false⟩
def t101:AFn:=⟨1,36,[.t 2],
 (.seq
 (.region [⟨(some 1),.box (.t 0),none,0,0⟩,
 ⟨(some 2),.mov (.c (.d (.sc (.int .i64 0)))),none,0,0⟩] false)
 (.seq
 (.region [⟨(some 8),.fieldAddr 0 (.t 1),none,0,0⟩,
 ⟨(some 9),.load 1 false (.t 8),none,0,0⟩,
 ⟨(some 10),.callF 103 [(.t 9)],none,0,0⟩,
 ⟨(some 7),.mov (.t 10),none,0,0⟩,
 ⟨(some 11),.extract (.t 7) 0,none,0,0⟩,
 ⟨(some 12),.extract (.t 7) 1,none,0,0⟩,
 ⟨(some 3),.alloc [(.d (.sc (.int .i64 0))),(.d (.sc (.int .i64 0))),(.d (.sc (.bool false))),(.d (.sc (.bool false))),(.d (.sc (.int .i64 0))),(.d (.sc (.int .i64 0))),(.d (.sc (.bool false))),(.d (.sc (.bool false))),(.d (.sc (.int .i64 0))),(.d (.sc (.int .i64 0))),(.d (.sc (.bool false))),(.d (.sc (.bool false)))],none,0,0⟩,
 ⟨none,.store 12 (.t 3) (.t 11),none,0,0⟩,
 ⟨(some 4),.mov (.t 12),none,0,0⟩] false)
 (.seq
 (.seq
 (.region [⟨(some 13),.mov (.t 4),none,0,0⟩,
 ⟨(some 14),.bin .lss (.t 13) (.c (.d (.sc (.int .i64 0)))),none,0,0⟩] false)
 (.cond (.t 14)
 (.seq
 (.region [⟨(some 2),.mov (.c (.d (.sc (.int .i64 8)))),none,0,0⟩] false)
 .ret)
 .skip))
 (.seq
 (.seq
 (.region [⟨(some 15),.load 4 true (.t 1),none,0,0⟩,
 ⟨(some 16),.callF 104 [(.t 15)],none,0,0⟩,
 ⟨(some 17),.mov (.c (.d (.sc (.int .i64 0)))),none,0,0⟩] false)
 (.block 0
 (.loop
 (.seq
 (.region [⟨(some 18),.bin .lss (.t 17) (.c (.d (.sc (.int .i64 3)))),none,0,0⟩] false)
 (.seq
 (.cond (.t 18)
 .skip
 (.exit 0))
 (.seq
 (.block 1
 (.seq
 (.region [⟨(some 19),.mov (.t 17),none,0,0⟩,
 ⟨(some 20),.indexA 3 1 false (.t 16) (.t 17),none,0,0⟩,
 ⟨(some 5),.mov (.t 19),none,0,0⟩,
 ⟨(some 6),.mov (.t 20),none,0,0⟩] false)
 (.seq
 (.region [⟨(some 21),.mov (.t 6),none,0,0⟩,
 ⟨(some 22),.mov (.t 5),none,0,0⟩,
 ⟨(some 23),.indexArr 3 4 (.t 3) (.t 22),none,0,0⟩,
 ⟨(some 24),.fieldAddr 0 (.t 23),none,0,0⟩,
 ⟨(some 25),.load 1 false (.t 24),none,0,0⟩,
 ⟨(some 26),.bin .lss (.t 21) (.t 25),none,0,0⟩,
 ⟨(some 27),.mov (.t 26),none,0,0⟩,
 ⟨(some 28),.mov (.t 6),(some (27,false)),0,0⟩,
 ⟨(some 29),.mov (.t 5),(some (27,false)),0,0⟩,
 ⟨(some 30),.indexArr 3 4 (.t 3) (.t 29),(some (27,false)),0,0⟩,
 ⟨(some 31),.fieldAddr 1 (.t 30),(some (27,false)),0,0⟩,
 ⟨(some 32),.load 1 false (.t 31),(some (27,false)),0,0⟩,
 ⟨(some 33),.bin .gtr (.t 28) (.t 32),(some (27,false)),0,0⟩,
 ⟨(some 34),.pick (.t 27) (.c (.d (.sc (.bool true)))) (.t 33),none,0,0⟩] false)
 (.cond (.t 34)
 (.seq
 (.region [⟨(some 2),.mov (.c (.d (.sc (.int .i64 8)))),none,0,0⟩] false)
 .ret)
 .skip))))
 (.region [⟨(some 35),.bin .add (.t 17) (.c (.d (.sc (.int .i64 1)))),none,0,0⟩,
 ⟨(some 17),.mov (.t 35),none,0,0⟩] false)))))))
 (.seq
 (.region [⟨(some 2),.mov (.c (.d (.sc (.int .i64 0)))),none,0,0⟩] false)
 .ret))))),false⟩
def t102:AFn:=⟨2,7,[],
 (.region [⟨(some 3),.load 1 false (.t 1),none,0,0⟩,
 ⟨(some 4),.mov (.t 0),none,0,0⟩,
 ⟨(some 5),.buildSlice 1 1 [(.sc (.int .u8 0))] [(0,(.t 4))],none,0,0⟩,
 ⟨(some 6),.append 1 1 (.t 3) (.t 5),none,0,6685065221⟩,
 ⟨none,.store 1 (.t 1) (.t 6),none,0,0⟩] false),true⟩
def t103:AFn:=⟨1,147,[.cell 2 12 true,.cell 3 1 false],
 (.seq
 (.region [⟨(some 2),.alloc [(.d (.sc (.int .i64 0))),(.d (.sc (.int .i64 0))),(.d (.sc (.bool false))),(.d (.sc (.bool false))),(.d (.sc (.int .i64 0))),(.d (.sc (.int .i64 0))),(.d (.sc (.bool false))),(.d (.sc (.bool false))),(.d (.sc (.int .i64 0))),(.d (.sc (.int .i64 0))),(.d (.sc (.bool false))),(.d (.sc (.bool false)))],none,0,0⟩,
 ⟨(some 3),.alloc [(.d (.sc (.int .i64 0)))],none,0,0⟩] false)
 (.seq
 (.region [⟨(some 5),.makeFunc 109 [(.t 2),(.t 3)],none,0,0⟩,
 ⟨(some 4),.mov (.t 5),none,0,0⟩] false)
 (.seq
 (.seq
 (.region [⟨(some 6),.mov (.t 0),none,0,0⟩] false)
 (.block 0
 (.seq
 (.block 19
 (.seq
 (.block 18
 (.seq
 (.block 17
 (.seq
 (.block 16
 (.seq
 (.block 15
 (.seq
 (.block 14
 (.seq
 (.block 13
 (.seq
 (.block 12
 (.seq
 (.block 11
 (.seq
 (.block 10
 (.seq
 (.block 9
 (.seq
 (.block 8
 (.seq
 (.block 7
 (.seq
 (.block 6
 (.seq
 (.block 5
 (.seq
 (.block 4
 (.seq
 (.block 3
 (.seq
 (.block 2
 (.seq
 (.block 1
 (.seq
 (.seq
 (.seq
 (.seq
 (.region [⟨(some 8),.bin .eql (.t 6) (.c (.d (.sc (.int .u8 30)))),none,0,0⟩,
 ⟨(some 7),.mov (.t 8),none,0,0⟩] false)
 (.cond (.t 7)
 .skip
 (.region [⟨(some 9),.bin .eql (.t 6) (.c (.d (.sc (.int .u8 31)))),none,0,0⟩,
 ⟨(some 7),.mov (.t 9),none,0,0⟩] false)))
 (.cond (.t 7)
 (.exit 1)
 .skip))
 (.seq
 (.seq
 (.region [⟨(some 11),.bin .eql (.t 6) (.c (.d (.sc (.int .u8 1)))),none,0,0⟩,
 ⟨(some 10),.mov (.t 11),none,0,0⟩] false)
 (.cond (.t 10)
 (.exit 2)
 .skip))
 (.seq
 (.seq
 (.region [⟨(some 13),.bin .eql (.t 6) (.c (.d (.sc (.int .u8 2)))),none,0,0⟩,
 ⟨(some 12),.mov (.t 13),none,0,0⟩] false)
 (.cond (.t 12)
 (.exit 3)
 .skip))
 (.seq
 (.seq
 (.region [⟨(some 15),.bin .eql (.t 6) (.c (.d (.sc (.int .u8 3)))),none,0,0⟩,
 ⟨(some 14),.mov (.t 15),none,0,0⟩] false)
 (.cond (.t 14)
 (.exit 4)
 .skip))
 (.seq
 (.seq
 (.seq
 (.region [⟨(some 17),.bin .eql (.t 6) (.c (.d (.sc (.int .u8 4)))),none,0,0⟩,
 ⟨(some 16),.mov (.t 17),none,0,0⟩] false)
 (.cond (.t 16)
 .skip
 (.region [⟨(some 18),.bin .eql (.t 6) (.c (.d (.sc (.int .u8 15)))),none,0,0⟩,
 ⟨(some 16),.mov (.t 18),none,0,0⟩] false)))
 (.cond (.t 16)
 (.exit 5)
 .skip))
 (.seq
 (.seq
 (.seq
 (.region [⟨(some 20),.bin .eql (.t 6) (.c (.d (.sc (.int .u8 6)))),none,0,0⟩,
 ⟨(some 19),.mov (.t 20),none,0,0⟩] false)
 (.cond (.t 19)
 .skip
 (.seq
 (.region [⟨(some 21),.bin .eql (.t 6) (.c (.d (.sc (.int .u8 7)))),none,0,0⟩,
 ⟨(some 19),.mov (.t 21),none,0,0⟩] false)
 (.cond (.t 19)
 .skip
 (.seq
 (.region [⟨(some 22),.bin .eql (.t 6) (.c (.d (.sc (.int .u8 8)))),none,0,0⟩,
 ⟨(some 19),.mov (.t 22),none,0,0⟩] false)
 (.cond (.t 19)
 .skip
 (.seq
 (.region [⟨(some 23),.bin .eql (.t 6) (.c (.d (.sc (.int .u8 9)))),none,0,0⟩,
 ⟨(some 19),.mov (.t 23),none,0,0⟩] false)
 (.cond (.t 19)
 .skip
 (.seq
 (.region [⟨(some 24),.bin .eql (.t 6) (.c (.d (.sc (.int .u8 10)))),none,0,0⟩,
 ⟨(some 19),.mov (.t 24),none,0,0⟩] false)
 (.cond (.t 19)
 .skip
 (.seq
 (.region [⟨(some 25),.bin .eql (.t 6) (.c (.d (.sc (.int .u8 11)))),none,0,0⟩,
 ⟨(some 19),.mov (.t 25),none,0,0⟩] false)
 (.cond (.t 19)
 .skip
 (.region [⟨(some 26),.bin .eql (.t 6) (.c (.d (.sc (.int .u8 19)))),none,0,0⟩,
 ⟨(some 19),.mov (.t 26),none,0,0⟩] false)))))))))))))
 (.cond (.t 19)
 (.exit 6)
 .skip))
 (.seq
 (.seq
 (.seq
 (.region [⟨(some 28),.bin .eql (.t 6) (.c (.d (.sc (.int .u8 5)))),none,0,0⟩,
 ⟨(some 27),.mov (.t 28),none,0,0⟩] false)
 (.cond (.t 27)
 .skip
 (.seq
 (.region [⟨(some 29),.bin .eql (.t 6) (.c (.d (.sc (.int .u8 12)))),none,0,0⟩,
 ⟨(some 27),.mov (.t 29),none,0,0⟩] false)
 (.cond (.t 27)
 .skip
 (.seq
 (.region [⟨(some 30),.bin .eql (.t 6) (.c (.d (.sc (.int .u8 16)))),none,0,0⟩,
 ⟨(some 27),.mov (.t 30),none,0,0⟩] false)
 (.cond (.t 27)
 .skip
 (.seq
 (.region [⟨(some 31),.bin .eql (.t 6) (.c (.d (.sc (.int .u8 18)))),none,0,0⟩,
 ⟨(some 27),.mov (.t 31),none,0,0⟩] false)
 (.cond (.t 27)
 .skip
 (.seq
 (.region [⟨(some 32),.bin .eql (.t 6) (.c (.d (.sc (.int .u8 21)))),none,0,0⟩,
 ⟨(some 27),.mov (.t 32),none,0,0⟩] false)
 (.cond (.t 27)
 .skip
 (.region [⟨(some 33),.bin .eql (.t 6) (.c (.d (.sc (.int .u8 33)))),none,0,0⟩,
 ⟨(some 27),.mov (.t 33),none,0,0⟩] false)))))))))))
 (.cond (.t 27)
 (.exit 7)
 .skip))
 (.seq
 (.seq
 (.region [⟨(some 35),.bin .eql (.t 6) (.c (.d (.sc (.int .u8 13)))),none,0,0⟩,
 ⟨(some 34),.mov (.t 35),none,0,0⟩] false)
 (.cond (.t 34)
 (.exit 8)
 .skip))
 (.seq
 (.seq
 (.region [⟨(some 37),.bin .eql (.t 6) (.c (.d (.sc (.int .u8 14)))),none,0,0⟩,
 ⟨(some 36),.mov (.t 37),none,0,0⟩] false)
 (.cond (.t 36)
 (.exit 9)
 .skip))
 (.seq
 (.seq
 (.region [⟨(some 39),.bin .eql (.t 6) (.c (.d (.sc (.int .u8 20)))),none,0,0⟩,
 ⟨(some 38),.mov (.t 39),none,0,0⟩] false)
 (.cond (.t 38)
 (.exit 10)
 .skip))
 (.seq
 (.seq
 (.region [⟨(some 41),.bin .eql (.t 6) (.c (.d (.sc (.int .u8 17)))),none,0,0⟩,
 ⟨(some 40),.mov (.t 41),none,0,0⟩] false)
 (.cond (.t 40)
 (.exit 11)
 .skip))
 (.seq
 (.seq
 (.region [⟨(some 43),.bin .eql (.t 6) (.c (.d (.sc (.int .u8 22)))),none,0,0⟩,
 ⟨(some 42),.mov (.t 43),none,0,0⟩] false)
 (.cond (.t 42)
 (.exit 12)
 .skip))
 (.seq
 (.seq
 (.region [⟨(some 45),.bin .eql (.t 6) (.c (.d (.sc (.int .u8 23)))),none,0,0⟩,
 ⟨(some 44),.mov (.t 45),none,0,0⟩] false)
 (.cond (.t 44)
 (.exit 13)
 .skip))
 (.seq
 (.seq
 (.seq
 (.region [⟨(some 47),.bin .eql (.t 6) (.c (.d (.sc (.int .u8 24)))),none,0,0⟩,
 ⟨(some 46),.mov (.t 47),none,0,0⟩] false)
 (.cond (.t 46)
 .skip
 (.seq
 (.region [⟨(some 48),.bin .eql (.t 6) (.c (.d (.sc (.int .u8 28)))),none,0,0⟩,
 ⟨(some 46),.mov (.t 48),none,0,0⟩] false)
 (.cond (.t 46)
 .skip
 (.region [⟨(some 49),.bin .eql (.t 6) (.c (.d (.sc (.int .u8 32)))),none,0,0⟩,
 ⟨(some 46),.mov (.t 49),none,0,0⟩] false)))))
 (.cond (.t 46)
 (.exit 14)
 .skip))
 (.seq
 (.seq
 (.region [⟨(some 51),.bin .eql (.t 6) (.c (.d (.sc (.int .u8 25)))),none,0,0⟩,
 ⟨(some 50),.mov (.t 51),none,0,0⟩] false)
 (.cond (.t 50)
 (.exit 15)
 .skip))
 (.seq
 (.seq
 (.seq
 (.region [⟨(some 53),.bin .eql (.t 6) (.c (.d (.sc (.int .u8 26)))),none,0,0⟩,
 ⟨(some 52),.mov (.t 53),none,0,0⟩] false)
 (.cond (.t 52)
 .skip
 (.region [⟨(some 54),.bin .eql (.t 6) (.c (.d (.sc (.int .u8 27)))),none,0,0⟩,
 ⟨(some 52),.mov (.t 54),none,0,0⟩] false)))
 (.cond (.t 52)
 (.exit 16)
 .skip))
 (.seq
 (.seq
 (.region [⟨(some 56),.bin .eql (.t 6) (.c (.d (.sc (.int .u8 29)))),none,0,0⟩,
 ⟨(some 55),.mov (.t 56),none,0,0⟩] false)
 (.cond (.t 55)
 (.exit 17)
 .skip))
 (.seq
 (.region [⟨(some 58),.bin .eql (.t 6) (.c (.d (.sc (.int .u8 34)))),none,0,0⟩,
 ⟨(some 57),.mov (.t 58),none,0,0⟩] false)
 (.cond (.t 57)
 (.exit 18)
 .skip)))))))))))))))))))
 (.exit 19)))
 (.exit 0)))
 (.seq
 (.region [⟨(some 59),.mov (.t 4),none,0,0⟩,
 ⟨(some 60),.callF 110 [],none,0,0⟩,
 ⟨(some 61),.callF 111 [],none,0,0⟩,
 ⟨(some 62),.buildSlice 4 2 [(.sc (.int .i64 0)),(.sc (.int .i64 0)),(.sc (.bool false)),(.sc (.bool false))] [(0,(.t 60)),(1,(.t 61))],none,0,0⟩,
 ⟨(some 63),.callv (.t 59) [(.t 62)],none,0,0⟩] false)
 (.exit 0))))
 (.seq
 (.region [⟨(some 64),.mov (.t 4),none,0,0⟩,
 ⟨(some 65),.callF 110 [],none,0,0⟩,
 ⟨(some 66),.callF 112 [(.c (.d (.sc (.int .i64 32))))],none,0,0⟩,
 ⟨(some 67),.buildSlice 4 2 [(.sc (.int .i64 0)),(.sc (.int .i64 0)),(.sc (.bool false)),(.sc (.bool false))] [(0,(.t 65)),(1,(.t 66))],none,0,0⟩,
 ⟨(some 68),.callv (.t 64) [(.t 67)],none,0,0⟩] false)
 (.exit 0))))
 (.seq
 (.region [⟨(some 69),.mov (.t 4),none,0,0⟩,
 ⟨(some 70),.callF 110 [],none,0,0⟩,
 ⟨(some 71),.callF 112 [(.c (.d (.sc (.int .i64 2))))],none,0,0⟩,
 ⟨(some 72),.buildSlice 4 2 [(.sc (.int .i64 0)),(.sc (.int .i64 0)),(.sc (.bool false)),(.sc (.bool false))] [(0,(.t 70)),(1,(.t 71))],none,0,0⟩,
 ⟨(some 73),.callv (.t 69) [(.t 72)],none,0,0⟩] false)
 (.exit 0))))
 (.seq
 (.region [⟨(some 74),.mov (.t 4),none,0,0⟩,
 ⟨(some 75),.callF 110 [],none,0,0⟩,
 ⟨(some 76),.buildSlice 4 1 [(.sc (.int .i64 0)),(.sc (.int .i64 0)),(.sc (.bool false)),(.sc (.bool false))] [(0,(.t 75))],none,0,0⟩,
 ⟨(some 77),.callv (.t 74) [(.t 76)],none,0,0⟩] false)
 (.exit 0))))
 (.region [⟨(some 78),.callF 113 [],none,0,0⟩,
 ⟨(some 79),.indexArr 3 4 (.t 2) (.c (.d (.sc (.int .i64 2)))),none,0,0⟩,
 ⟨none,.store 4 (.t 79) (.t 78),none,0,0⟩] false)))
 (.seq
 (.seq
 (.region [⟨(some 80),.callF 110 [],none,0,0⟩,
 ⟨(some 81),.callF 113 [],none,0,0⟩,
 ⟨(some 82),.indexArr 3 4 (.t 2) (.c (.d (.sc (.int .i64 0)))),none,0,0⟩,
 ⟨none,.store 4 (.t 82) (.t 80),none,0,0⟩,
 ⟨(some 83),.indexArr 3 4 (.t 2) (.c (.d (.sc (.int .i64 1)))),none,0,0⟩,
 ⟨none,.store 4 (.t 83) (.t 81),none,0,0⟩,
 ⟨none,.store 1 (.t 3) (.c (.d (.sc (.int .i64 2)))),none,0,0⟩] false)
 (.seq
 (.region [⟨(some 84),.indexArr 3 4 (.t 2) (.c (.d (.sc (.int .i64 2)))),none,0,0⟩,
 ⟨(some 85),.fieldAddr 2 (.t 84),none,0,0⟩,
 ⟨(some 86),.load 1 false (.t 85),none,0,0⟩] false)
 (.cond (.t 86)
 (.region [⟨none,.store 1 (.t 3) (.c (.d (.sc (.int .i64 3)))),none,0,0⟩] false)
 .skip)))
 (.exit 0))))
 (.seq
 (.region [⟨(some 87),.mov (.t 4),none,0,0⟩,
 ⟨(some 88),.callF 110 [],none,0,0⟩,
 ⟨(some 89),.callF 113 [],none,0,0⟩,
 ⟨(some 90),.callF 112 [(.c (.d (.sc (.int .i64 8))))],none,0,0⟩,
 ⟨(some 91),.buildSlice 4 3 [(.sc (.int .i64 0)),(.sc (.int .i64 0)),(.sc (.bool false)),(.sc (.bool false))] [(0,(.t 88)),(1,(.t 89)),(2,(.t 90))],none,0,0⟩,
 ⟨(some 92),.callv (.t 87) [(.t 91)],none,0,0⟩] false)
 (.exit 0))))
 (.seq
 (.region [⟨(some 93),.mov (.t 4),none,0,0⟩,
 ⟨(some 94),.callF 113 [],none,0,0⟩,
 ⟨(some 95),.callF 112 [(.c (.d (.sc (.int .i64 8))))],none,0,0⟩,
 ⟨(some 96),.callF 113 [],none,0,0⟩,
 ⟨(some 97),.buildSlice 4 3 [(.sc (.int .i64 0)),(.sc (.int .i64 0)),(.sc (.bool false)),(.sc (.bool false))] [(0,(.t 94)),(1,(.t 95)),(2,(.t 96))],none,0,0⟩,
 ⟨(some 98),.callv (.t 93) [(.t 97)],none,0,0⟩] false)
 (.exit 0))))
 (.seq
 (.region [⟨(some 99),.mov (.t 4),none,0,0⟩,
 ⟨(some 100),.callF 113 [],none,0,0⟩,
 ⟨(some 101),.callF 113 [],none,0,0⟩,
 ⟨(some 102),.callF 113 [],none,0,0⟩,
 ⟨(some 103),.buildSlice 4 3 [(.sc (.int .i64 0)),(.sc (.int .i64 0)),(.sc (.bool false)),(.sc (.bool false))] [(0,(.t 100)),(1,(.t 101)),(2,(.t 102))],none,0,0⟩,
 ⟨(some 104),.callv (.t 99) [(.t 103)],none,0,0⟩] false)
 (.exit 0))))
 (.seq
 (.region [⟨(some 105),.mov (.t 4),none,0,0⟩,
 ⟨(some 106),.callF 113 [],none,0,0⟩,
 ⟨(some 107),.callF 113 [],none,0,0⟩,
 ⟨(some 108),.buildSlice 4 2 [(.sc (.int .i64 0)),(.sc (.int .i64 0)),(.sc (.bool false)),(.sc (.bool false))] [(0,(.t 106)),(1,(.t 107))],none,0,0⟩,
 ⟨(some 109),.callv (.t 105) [(.t 108)],none,0,0⟩] false)
 (.exit 0))))
 (.seq
 (.region [⟨(some 110),.mov (.t 4),none,0,0⟩,
 ⟨(some 111),.callF 112 [(.c (.d (.sc (.int .i64 200))))],none,0,0⟩,
 ⟨(some 112),.buildSlice 4 1 [(.sc (.int .i64 0)),(.sc (.int .i64 0)),(.sc (.bool false)),(.sc (.bool false))] [(0,(.t 111))],none,0,0⟩,
 ⟨(some 113),.callv (.t 110) [(.t 112)],none,0,0⟩] false)
 (.exit 0))))
 (.seq
 (.region [⟨(some 114),.mov (.t 4),none,0,0⟩,
 ⟨(some 115),.callF 113 [],none,0,0⟩,
 ⟨(some 116),.callF 112 [(.c (.d (.sc (.int .i64 200))))],none,0,0⟩,
 ⟨(some 117),.buildSlice 4 2 [(.sc (.int .i64 0)),(.sc (.int .i64 0)),(.sc (.bool false)),(.sc (.bool false))] [(0,(.t 115)),(1,(.t 116))],none,0,0⟩,
 ⟨(some 118),.callv (.t 114) [(.t 117)],none,0,0⟩] false)
 (.exit 0))))
 (.seq
 (.region [⟨(some 119),.mov (.t 4),none,0,0⟩,
 ⟨(some 120),.callF 113 [],none,0,0⟩,
 ⟨(some 121),.buildSlice 4 1 [(.sc (.int .i64 0)),(.sc (.int .i64 0)),(.sc (.bool false)),(.sc (.bool false))] [(0,(.t 120))],none,0,0⟩,
 ⟨(some 122),.callv (.t 119) [(.t 121)],none,0,0⟩] false)
 (.exit 0))))
 (.seq
 (.seq
 (.region [⟨(some 123),.mov (.t 4),none,0,0⟩,
 ⟨(some 124),.callF 110 [],none,0,0⟩,
 ⟨(some 125),.callF 112 [(.c (.d (.sc (.int .i64 32))))],none,0,0⟩,
 ⟨(some 126),.buildSlice 4 2 [(.sc (.int .i64 0)),(.sc (.int .i64 0)),(.sc (.bool false)),(.sc (.bool false))] [(0,(.t 124)),(1,(.t 125))],none,0,0⟩,
 ⟨(some 127),.callv (.t 123) [(.t 126)],none,0,0⟩] false)
 (.region [⟨(some 128),.indexArr 3 4 (.t 2) (.c (.d (.sc (.int .i64 0)))),none,0,0⟩,
 ⟨(some 129),.fieldAddr 0 (.t 128),none,0,0⟩,
 ⟨none,.store 1 (.t 129) (.c (.d (.sc (.int .i64 (-1))))),none,0,0⟩] false))
 (.exit 0))))
 (.seq
 (.region [⟨(some 130),.mov (.t 4),none,0,0⟩,
 ⟨(some 131),.callF 112 [(.c (.d (.sc (.int .i64 32))))],none,0,0⟩,
 ⟨(some 132),.buildSlice 4 1 [(.sc (.int .i64 0)),(.sc (.int .i64 0)),(.sc (.bool false)),(.sc (.bool false))] [(0,(.t 131))],none,0,0⟩,
 ⟨(some 133),.callv (.t 130) [(.t 132)],none,0,0⟩] false)
 (.exit 0))))
 (.seq
 (.region [⟨(some 134),.mov (.t 4),none,0,0⟩,
 ⟨(some 135),.callF 110 [],none,0,0⟩,
 ⟨(some 136),.callF 110 [],none,0,0⟩,
 ⟨(some 137),.buildSlice 4 2 [(.sc (.int .i64 0)),(.sc (.int .i64 0)),(.sc (.bool false)),(.sc (.bool false))] [(0,(.t 135)),(1,(.t 136))],none,0,0⟩,
 ⟨(some 138),.callv (.t 134) [(.t 137)],none,0,0⟩] false)
 (.exit 0))))
 (.seq
 (.seq
 (.region [⟨(some 139),.mov (.t 4),none,0,0⟩,
 ⟨(some 140),.callF 113 [],none,0,0⟩,
 ⟨(some 141),.buildSlice 4 1 [(.sc (.int .i64 0)),(.sc (.int .i64 0)),(.sc (.bool false)),(.sc (.bool false))] [(0,(.t 140))],none,0,0⟩,
 ⟨(some 142),.callv (.t 139) [(.t 141)],none,0,0⟩] false)
 (.region [⟨(some 143),.indexArr 3 4 (.t 2) (.c (.d (.sc (.int .i64 0)))),none,0,0⟩,
 ⟨(some 144),.fieldAddr 0 (.t 143),none,0,0⟩,
 ⟨none,.store 1 (.t 144) (.c (.d (.sc (.int .i64 (-1))))),none,0,0⟩] false))
 (.exit 0))))
 (.seq
 (.region [⟨none,.store 1 (.t 3) (.c (.d (.sc (.int .i64 (-1))))),none,0,0⟩] false)
 (.exit 0)))))
 (.seq
 (.region [⟨(some 145),.load 12 true (.t 2),none,0,0⟩,
 ⟨(some 146),.load 1 false (.t 3),none,0,0⟩,
 ⟨none,.store 12 (.t 2) (.t 145),none,1,0⟩,
 ⟨none,.store 1 (.t 3) (.t 146),none,7,0⟩] true)
 .ret)))),false⟩
def t104:AFn:=⟨1,10,[.cell 2 3 true],
 (.seq
 (.region [⟨(some 1),.box (.t 0),none,0,0⟩,
 ⟨(some 2),.alloc [(.d (.sc (.int .i64 0))),(.d (.sc (.int .i64 0))),(.d (.sc (.int .i64 0)))],none,0,0⟩] false)
 (.seq
 (.region [⟨(some 3),.fieldAddr 1 (.t 1),none,0,0⟩,
 ⟨(some 4),.load 1 false (.t 3),none,0,0⟩,
 ⟨(some 5),.fieldAddr 2 (.t 1),none,0,0⟩,
 ⟨(some 6),.load 1 false (.t 5),none,0,0⟩,
 ⟨(some 7),.fieldAddr 3 (.t 1),none,0,0⟩,
 ⟨(some 8),.load 1 false (.t 7),none,0,0⟩,
 ⟨(some 9),.build [(.d (.sc (.int .i64 0))),(.d (.sc (.int .i64 0))),(.d (.sc (.int .i64 0)))] [(0,1,(.t 4)),(1,1,(.t 6)),(2,1,(.t 8))],none,0,0⟩,
 ⟨none,.store 3 (.t 2) (.t 9),none,0,0⟩] false)
 .ret)),false⟩
def t105:AFn:=⟨2,9,[.t 4],
 (.seq
 (.region [⟨(some 4),.mov (.c (.d (.sc (.bool false)))),none,0,0⟩] false)
 (.seq
 (.region [⟨(some 5),.mov (.t 0),none,0,0⟩,
 ⟨(some 6),.mov (.t 1),none,0,0⟩,
 ⟨(some 7),.callF 114 [(.t 5),(.t 6)],none,0,0⟩,
 ⟨(some 8),.bin .geq (.t 7) (.c (.d (.sc (.int .i64 0)))),none,0,0⟩,
 ⟨(some 4),.mov (.t 8),none,0,0⟩] false)
 .ret)),true⟩
def t106:AFn:=⟨1,5,[.t 2],
 (.seq
 (.region [⟨(some 2),.mov (.c (.d (.sc (.bool false)))),none,0,0⟩] false)
 (.seq
 (.region [⟨(some 3),.mov (.t 0),none,0,0⟩,
 ⟨(some 4),.bin .neq (.t 3) (.c (.d (.sc (.int .i64 0)))),none,0,0⟩,
 ⟨(some 2),.mov (.t 4),none,0,0⟩] false)
 .ret)),false⟩
def t107:AFn:=⟨2,9,[.t 4],
 (.seq
 (.region [⟨(some 4),.mov (.c (.d (.sc (.bool false)))),none,0,0⟩] false)
 (.seq
 (.region [⟨(some 5),.mov (.t 0),none,0,0⟩,
 ⟨(some 6),.mov (.t 1),none,0,0⟩,
 ⟨(some 7),.callF 115 [(.t 5),(.t 6)],none,0,0⟩,
 ⟨(some 8),.bin .geq (.t 7) (.c (.d (.sc (.int .i64 0)))),none,0,0⟩,
 ⟨(some 4),.mov (.t 8),none,0,0⟩] false)
 .ret)),true⟩
def t108:AFn:=⟨2,9,[.t 3],
 (.seq
 (.region [⟨(some 2),.box (.t 0),none,0,0⟩,
 ⟨(some 3),.mov (.c (.d (.sc (.bool false)))),none,0,0⟩] false)
 (.seq
 (.region [⟨(some 4),.fieldAddr 0 (.t 2),none,0,0⟩,
 ⟨(some 5),.load 1 false (.t 4),none,0,0⟩,
 ⟨(some 6),.fieldAddr 0 (.t 1),none,0,0⟩,
 ⟨(some 7),.load 1 false (.t 6),none,0,0⟩,
 ⟨(some 8),.bin .eql (.t 5) (.t 7),none,0,0⟩,
 ⟨(some 3),.mov (.t 8),none,0,0⟩] false)
 .ret)),true⟩
def t109:AFn:=⟨3,7,[],
 (.region [⟨(some 4),.sliceB 3 4 (.t 1),none,0,0⟩,
 ⟨(some 5),.mov (.t 0),none,0,0⟩,
 ⟨(some 6),.copy 4 (.t 4) (.t 5),none,0,0⟩,
 ⟨none,.store 1 (.t 2) (.t 6),none,0,0⟩] false),true⟩
def t110:AFn:=⟨0,2,[.cell 0 4 true],
 (.seq
 (.region [⟨(some 0),.alloc [(.d (.sc (.int .i64 0))),(.d (.sc (.int .i64 0))),(.d (.sc (.bool false))),(.d (.sc (.bool false)))],none,0,0⟩] false)
 (.seq
 (.region [⟨(some 1),.build [(.d (.sc (.int .i64 0))),(.d (.sc (.int .i64 0))),(.d (.sc (.bool false))),(.d (.sc (.bool false)))] [(0,1,(.c (.d (.sc (.int .i64 0))))),(1,1,(.c (.d (.sc (.int .i64 15))))),(2,1,(.c (.d (.sc (.bool false))))),(3,1,(.c (.d (.sc (.bool true)))))],none,0,0⟩,
 ⟨none,.store 4 (.t 0) (.t 1),none,0,0⟩] false)
 .ret)),false⟩
def t111:AFn:=⟨0,2,[.cell 0 4 true],
 (.seq
 (.region [⟨(some 0),.alloc [(.d (.sc (.int .i64 0))),(.d (.sc (.int .i64 0))),(.d (.sc (.bool false))),(.d (.sc (.bool false)))],none,0,0⟩] false)
 (.seq
 (.region [⟨(some 1),.build [(.d (.sc (.int .i64 0))),(.d (.sc (.int .i64 0))),(.d (.sc (.bool false))),(.d (.sc (.bool false)))] [(0,1,(.c (.d (.sc (.int .i64 (-9223372036854775808)))))),(1,1,(.c (.d (.sc (.int .i64 9223372036854775807))))),(2,1,(.c (.d (.sc (.bool false))))),(3,1,(.c (.d (.sc (.bool false)))))],none,0,0⟩,
 ⟨none,.store 4 (.t 0) (.t 1),none,0,0⟩] false)
 .ret)),false⟩
def t112:AFn:=⟨1,6,[.cell 2 4 true],
 (.seq
 (.region [⟨(some 2),.alloc [(.d (.sc (.int .i64 0))),(.d (.sc (.int .i64 0))),(.d (.sc (.bool false))),(.d (.sc (.bool false)))],none,0,0⟩] false)
 (.seq
 (.region [⟨(some 3),.mov (.t 0),none,0,0⟩,
 ⟨(some 4),.bin .sub (.t 3) (.c (.d (.sc (.int .i64 1)))),none,0,0⟩,
 ⟨(some 5),.build [(.d (.sc (.int .i64 0))),(.d (.sc (.int .i64 0))),(.d (.sc (.bool false))),(.d (.sc (.bool false)))] [(0,1,(.c (.d (.sc (.int .i64 0))))),(1,1,(.t 4)),(2,1,(.c (.d (.sc (.bool false))))),(3,1,(.c (.d (.sc (.bool false)))))],none,0,0⟩,
 ⟨none,.store 4 (.t 2) (.t 5),none,0,0⟩] false)
 .ret)),false⟩
def t113:AFn:=⟨0,2,[.cell 0 4 true],
 (.seq
 (.region [⟨(some 0),.alloc [(.d (.sc (.int .i64 0))),(.d (.sc (.int .i64 0))),(.d (.sc (.bool false))),(.d (.sc (.bool false)))],none,0,0⟩] false)
 (.seq
 (.region [⟨(some 1),.build [(.d (.sc (.int .i64 0))),(.d (.sc (.int .i64 0))),(.d (.sc (.bool false))),(.d (.sc (.bool false)))] [(0,1,(.c (.d (.sc (.int .i64 0))))),(1,1,(.c (.d (.sc (.int .i64 15))))),(2,1,(.c (.d (.sc (.bool true))))),(3,1,(.c (.d (.sc (.bool false)))))],none,0,0⟩,
 ⟨none,.store 4 (.t 0) (.t 1),none,0,0⟩] false)
 .ret)),false⟩
def t114:AFn:=⟨2,19,[.t 4],
 (.seq
 (.region [⟨(some 4),.mov (.c (.d (.sc (.int .i64 0)))),none,0,0⟩] false)
 (.seq
 (.seq
 (.region [⟨(some 6),.mov (.t 0),none,0,0⟩,
 ⟨(some 7),.len (.t 6),none,0,0⟩,
 ⟨(some 8),.mov (.c (.d (.sc (.int .i64 0)))),none,0,0⟩] false)
 (.block 0
 (.loop
 (.seq
 (.region [⟨(some 9),.bin .lss (.t 8) (.t 7),none,0,0⟩] false)
 (.seq
 (.cond (.t 9)
 .skip
 (.exit 0))
 (.seq
 (.block 1
 (.seq
 (.region [⟨(some 10),.mov (.t 8),none,0,0⟩,
 ⟨(some 5),.mov (.t 10),none,0,0⟩] false)
 (.seq
 (.region [⟨(some 11),.mov (.t 1),none,0,0⟩,
 ⟨(some 12),.mov (.t 0),none,0,0⟩,
 ⟨(some 13),.mov (.t 5),none,0,0⟩,
 ⟨(some 14),.indexAddr 1 (.t 12) (.t 13),none,0,0⟩,
 ⟨(some 15),.load 1 false (.t 14),none,0,0⟩,
 ⟨(some 16),.callv (.t 11) [(.t 15)],none,0,0⟩] false)
 (.cond (.t 16)
 (.seq
 (.region [⟨(some 17),.mov (.t 5),none,0,0⟩,
 ⟨(some 4),.mov (.t 17),none,0,0⟩] false)
 .ret)
 .skip))))
 (.region [⟨(some 18),.bin .add (.t 8) (.c (.d (.sc (.int .i64 1)))),none,0,0⟩,
 ⟨(some 8),.mov (.t 18),none,0,0⟩] false)))))))
 (.seq
 (.region [⟨(some 4),.mov (.c (.d (.sc (.int .i64 (-1))))),none,0,0⟩] false)
 .ret))),true⟩
def t115:AFn:=⟨2,19,[.t 4],
 (.seq
 (.region [⟨(some 4),.mov (.c (.d (.sc (.int .i64 0)))),none,0,0⟩] false)
 (.seq
 (.seq
 (.region [⟨(some 6),.mov (.t 0),none,0,0⟩,
 ⟨(some 7),.len (.t 6),none,0,0⟩,
 ⟨(some 8),.mov (.c (.d (.sc (.int .i64 0)))),none,0,0⟩] false)
 (.block 0
 (.loop
 (.seq
 (.region [⟨(some 9),.bin .lss (.t 8) (.t 7),none,0,0⟩] false)
 (.seq
 (.cond (.t 9)
 .skip
 (.exit 0))
 (.seq
 (.block 1
 (.seq
 (.region [⟨(some 10),.mov (.t 8),none,0,0⟩,
 ⟨(some 5),.mov (.t 10),none,0,0⟩] false)
 (.seq
 (.region [⟨(some 11),.mov (.t 1),none,0,0⟩,
 ⟨(some 12),.mov (.t 0),none,0,0⟩,
 ⟨(some 13),.mov (.t 5),none,0,0⟩,
 ⟨(some 14),.indexAddr 2 (.t 12) (.t 13),none,0,0⟩,
 ⟨(some 15),.load 2 true (.t 14),none,0,0⟩,
 ⟨(some 16),.callv (.t 11) [(.t 15)],none,0,0⟩] false)
 (.cond (.t 16)
 (.seq
 (.region [⟨(some 17),.mov (.t 5),none,0,0⟩,
 ⟨(some 4),.mov (.t 17),none,0,0⟩] false)
 .ret)
 .skip))))
 (.region [⟨(some 18),.bin .add (.t 8) (.c (.d (.sc (.int .i64 1)))),none,0,0⟩,
 ⟨(some 8),.mov (.t 18),none,0,0⟩] false)))))))
 (.seq
 (.region [⟨(some 4),.mov (.c (.d (.sc (.int .i64 (-1))))),none,0,0⟩] false)
 .ret))),true⟩
def md:Nat→Eng.Mode:=fun f=>match f with
 |5=>⟨[(313,65538),(194,458755)],false⟩
 |7=>⟨[],false⟩
 |9=>⟨[],false⟩
 |11=>⟨[],false⟩
 |13=>⟨[],false⟩
 |16=>⟨[(26,1)],false⟩
 |17=>⟨[(155,3),(79,1)],false⟩
 |18=>⟨[],false⟩
 |19=>⟨[],false⟩
 |20=>⟨[],false⟩
 |21=>⟨[(8,1),(5,1)],false⟩
 |22=>⟨[(77,2)],false⟩
 |24=>⟨[],false⟩
 |25=>⟨[],false⟩
 |27=>⟨[],false⟩
 |28=>⟨[],false⟩
 |33=>⟨[],false⟩
 |35=>⟨[],false⟩
 |36=>⟨[],false⟩
 |37=>⟨[],false⟩
 |38=>⟨[(24,65537)],false⟩
 |39=>⟨[],false⟩
 |40=>⟨[],false⟩
 |41=>⟨[(22,1)],false⟩
 |42=>⟨[],false⟩
 |43=>⟨[],false⟩
 |44=>⟨[],false⟩
 |46=>⟨[],false⟩
 |47=>⟨[],true⟩
 |48=>⟨[],true⟩
 |61=>⟨[],false⟩
 |62=>⟨[(9,1)],false⟩
 |63=>⟨[(22,1),(4,65540)],true⟩
 |64=>⟨[],false⟩
 |65=>⟨[],false⟩
 |66=>⟨[],false⟩
 |67=>⟨[],false⟩
 |68=>⟨[],true⟩
 |69=>⟨[],true⟩
 |70=>⟨[],true⟩
 |71=>⟨[],true⟩
 |72=>⟨[(13,1)],false⟩
 |74=>⟨[],false⟩
 |75=>⟨[],false⟩
 |85=>⟨[(27,2),(44,2),(65,2),(104,2)],false⟩
 |86=>⟨[(3,6),(17,1)],false⟩
 |87=>⟨[],false⟩
 |88=>⟨[],false⟩
 |89=>⟨[],true⟩
 |90=>⟨[(2,65540)],false⟩
 |91=>⟨[],false⟩
 |92=>⟨[],false⟩
 |93=>⟨[(20,65537)],false⟩
 |97=>⟨[],false⟩
 |98=>⟨[],false⟩
 |99=>⟨[],false⟩
 |100=>⟨[],false⟩
 |101=>⟨[],false⟩
 |102=>⟨[(6,6685065221)],true⟩
 |103=>⟨[],false⟩
 |104=>⟨[],false⟩
 |105=>⟨[],true⟩
 |106=>⟨[],false⟩
 |107=>⟨[],true⟩
 |108=>⟨[],true⟩
 |109=>⟨[],true⟩
 |110=>⟨[],false⟩
 |111=>⟨[],false⟩
 |112=>⟨[],false⟩
 |113=>⟨[],false⟩
 |114=>⟨[],true⟩
 |115=>⟨[],true⟩
 |_=>⟨[],false⟩
def lib:Nat→Option TypeId:=fun f=>match f with
 |_=>none
def tabL:List (Nat×AFn):=[(5,t5),(7,t7),(9,t9),(11,t11),(13,t13),(16,t16),(17,t17),(18,t18),(19,t19),(20,t20),(21,t21),(22,t22),(24,t24),(25,t25),(27,t27),(28,t28),(33,t33),(35,t35),(36,t36),(37,t37),(38,t38),(39,t39),(40,t40),(41,t41),(42,t42),(43,t43),(44,t44),(46,t46),(47,t47),(48,t48),(61,t61),(62,t62),(63,t63),(64,t64),(65,t65),(66,t66),(67,t67),(68,t68),(69,t69),(70,t70),(71,t71),(72,t72),(74,t74),(75,t75),(85,t85),(86,t86),(87,t87),(88,t88),(89,t89),(90,t90),(91,t91),(92,t92),(93,t93),(97,t97),(98,t98),(99,t99),(100,t100),(101,t101),(102,t102),(103,t103),(104,t104),(105,t105),(106,t106),(107,t107),(108,t108),(109,t109),(110,t110),(111,t111),(112,t112),(113,t113),(114,t114),(115,t115)]
def tab:Nat→Option AFn:=Go.Eng.tabAt tabL
theorem tab5:fnP Try.prog lib md 5=some t5:=by kernel_rfl
theorem tab7:fnP Try.prog lib md 7=some t7:=by kernel_rfl
theorem tab9:fnP Try.prog lib md 9=some t9:=by kernel_rfl
theorem tab11:fnP Try.prog lib md 11=some t11:=by kernel_rfl
theorem tab13:fnP Try.prog lib md 13=some t13:=by kernel_rfl
theorem tab16:fnP Try.prog lib md 16=some t16:=by kernel_rfl
theorem tab17:fnP Try.prog lib md 17=some t17:=by kernel_rfl
theorem tab18:fnP Try.prog lib md 18=some t18:=by kernel_rfl
theorem tab19:fnP Try.prog lib md 19=some t19:=by kernel_rfl
theorem tab20:fnP Try.prog lib md 20=some t20:=by kernel_rfl
theorem tab21:fnP Try.prog lib md 21=some t21:=by kernel_rfl
theorem tab22:fnP Try.prog lib md 22=some t22:=by kernel_rfl
theorem tab24:fnP Try.prog lib md 24=some t24:=by kernel_rfl
theorem tab25:fnP Try.prog lib md 25=some t25:=by kernel_rfl
theorem tab27:fnP Try.prog lib md 27=some t27:=by kernel_rfl
theorem tab28:fnP Try.prog lib md 28=some t28:=by kernel_rfl
theorem tab33:fnP Try.prog lib md 33=some t33:=by kernel_rfl
theorem tab35:fnP Try.prog lib md 35=some t35:=by kernel_rfl
theorem tab36:fnP Try.prog lib md 36=some t36:=by kernel_rfl
theorem tab37:fnP Try.prog lib md 37=some t37:=by kernel_rfl
theorem tab38:fnP Try.prog lib md 38=some t38:=by kernel_rfl
theorem tab39:fnP Try.prog lib md 39=some t39:=by kernel_rfl
theorem tab40:fnP Try.prog lib md 40=some t40:=by kernel_rfl
theorem tab41:fnP Try.prog lib md 41=some t41:=by kernel_rfl
theorem tab42:fnP Try.prog lib md 42=some t42:=by kernel_rfl
theorem tab43:fnP Try.prog lib md 43=some t43:=by kernel_rfl
theorem tab44:fnP Try.prog lib md 44=some t44:=by kernel_rfl
theorem tab46:fnP Try.prog lib md 46=some t46:=by kernel_rfl
theorem tab47:fnP Try.prog lib md 47=some t47:=by kernel_rfl
theorem tab48:fnP Try.prog lib md 48=some t48:=by kernel_rfl
theorem tab61:fnP Try.prog lib md 61=some t61:=by kernel_rfl
theorem tab62:fnP Try.prog lib md 62=some t62:=by kernel_rfl
theorem tab63:fnP Try.prog lib md 63=some t63:=by kernel_rfl
theorem tab64:fnP Try.prog lib md 64=some t64:=by kernel_rfl
theorem tab65:fnP Try.prog lib md 65=some t65:=by kernel_rfl
theorem tab66:fnP Try.prog lib md 66=some t66:=by kernel_rfl
theorem tab67:fnP Try.prog lib md 67=some t67:=by kernel_rfl
theorem tab68:fnP Try.prog lib md 68=some t68:=by kernel_rfl
theorem tab69:fnP Try.prog lib md 69=some t69:=by kernel_rfl
theorem tab70:fnP Try.prog lib md 70=some t70:=by kernel_rfl
theorem tab71:fnP Try.prog lib md 71=some t71:=by kernel_rfl
theorem tab72:fnP Try.prog lib md 72=some t72:=by kernel_rfl
theorem tab74:fnP Try.prog lib md 74=some t74:=by kernel_rfl
theorem tab75:fnP Try.prog lib md 75=some t75:=by kernel_rfl
theorem tab85:fnP Try.prog lib md 85=some t85:=by kernel_rfl
theorem tab86:fnP Try.prog lib md 86=some t86:=by kernel_rfl
theorem tab87:fnP Try.prog lib md 87=some t87:=by kernel_rfl
theorem tab88:fnP Try.prog lib md 88=some t88:=by kernel_rfl
theorem tab89:fnP Try.prog lib md 89=some t89:=by kernel_rfl
theorem tab90:fnP Try.prog lib md 90=some t90:=by kernel_rfl
theorem tab91:fnP Try.prog lib md 91=some t91:=by kernel_rfl
theorem tab92:fnP Try.prog lib md 92=some t92:=by kernel_rfl
theorem tab93:fnP Try.prog lib md 93=some t93:=by kernel_rfl
theorem tab97:fnP Try.prog lib md 97=some t97:=by kernel_rfl
theorem tab98:fnP Try.prog lib md 98=some t98:=by kernel_rfl
theorem tab99:fnP Try.prog lib md 99=some t99:=by kernel_rfl
theorem tab100:fnP Try.prog lib md 100=some t100:=by kernel_rfl
theorem tab101:fnP Try.prog lib md 101=some t101:=by kernel_rfl
theorem tab102:fnP Try.prog lib md 102=some t102:=by kernel_rfl
theorem tab103:fnP Try.prog lib md 103=some t103:=by kernel_rfl
theorem tab104:fnP Try.prog lib md 104=some t104:=by kernel_rfl
theorem tab105:fnP Try.prog lib md 105=some t105:=by kernel_rfl
theorem tab106:fnP Try.prog lib md 106=some t106:=by kernel_rfl
theorem tab107:fnP Try.prog lib md 107=some t107:=by kernel_rfl
theorem tab108:fnP Try.prog lib md 108=some t108:=by kernel_rfl
theorem tab109:fnP Try.prog lib md 109=some t109:=by kernel_rfl
theorem tab110:fnP Try.prog lib md 110=some t110:=by kernel_rfl
theorem tab111:fnP Try.prog lib md 111=some t111:=by kernel_rfl
theorem tab112:fnP Try.prog lib md 112=some t112:=by kernel_rfl
theorem tab113:fnP Try.prog lib md 113=some t113:=by kernel_rfl
theorem tab114:fnP Try.prog lib md 114=some t114:=by kernel_rfl
theorem tab115:fnP Try.prog lib md 115=some t115:=by kernel_rfl
theorem tabOK:∀ f fn,tab f=some fn→fnP Try.prog lib md f=some fn:=Go.Eng.tabAt_ok <| .cons tab5 <| .cons tab7 <| .cons tab9 <| .cons tab11 <| .cons tab13 <| .cons tab16 <| .cons tab17 <| .cons tab18 <| .cons tab19 <| .cons tab20 <| .cons tab21 <| .cons tab22 <| .cons tab24 <| .cons tab25 <| .cons tab27 <| .cons tab28 <| .cons tab33 <| .cons tab35 <| .cons tab36 <| .cons tab37 <| .cons tab38 <| .cons tab39 <| .cons tab40 <| .cons tab41 <| .cons tab42 <| .cons tab43 <| .cons tab44 <| .cons tab46 <| .cons tab47 <| .cons tab48 <| .cons tab61 <| .cons tab62 <| .cons tab63 <| .cons tab64 <| .cons tab65 <| .cons tab66 <| .cons tab67 <| .cons tab68 <| .cons tab69 <| .cons tab70 <| .cons tab71 <| .cons tab72 <| .cons tab74 <| .cons tab75 <| .cons tab85 <| .cons tab86 <| .cons tab87 <| .cons tab88 <| .cons tab89 <| .cons tab90 <| .cons tab91 <| .cons tab92 <| .cons tab93 <| .cons tab97 <| .cons tab98 <| .cons tab99 <| .cons tab100 <| .cons tab101 <| .cons tab102 <| .cons tab103 <| .cons tab104 <| .cons tab105 <| .cons tab106 <| .cons tab107 <| .cons tab108 <| .cons tab109 <| .cons tab110 <| .cons tab111 <| .cons tab112 <| .cons tab113 <| .cons tab114 <| .cons tab115 <| .nil
theorem libOK:∀ f T,lib f=some T→IsLib Try.prog f T:=by
  intro f T h
  cases h
theorem run:(runF tab 20000 5 [] [.lf] .lf 0).map (·.1)=some (.d (.sc (.bool true))):=by kernel_rfl
end Go.Proofs.Ytgpggimdmcjbpaa
