/- The functions, as tables over places; each is what the program has. -/
import Derived.Test.YtleacocdepjflaaGreatT21na
import Derived.Test.YtleacocdepjflaaGreatEngMemo
import Derived.Test.YtleacocdepjflaaGreatRows
import Derived.ProofKit
namespace Go.Proofs.YtleacocdepjflaaGreat
open Go Go.Eng
set_option maxRecDepth 100000
noncomputable section
def q140:QFn:=⟨1,[.cell s2 2 true],
(.seq (.region [seqO (r_alloc [b0,i0] 0 2) w2] 1)
(.seq (.draw [⟨(r_mov s0 0 19),w19,0⟩,
⟨(r_nilCheck s19 0 20),w20,1⟩,
⟨(r_fieldAddr 0 s20 0 21),w21,3⟩,
⟨(r_fieldAddr 9 s21 0 22),w22,7⟩,
⟨(r_load 1 false s22 0 23),w23,15⟩,
⟨(r_mov s0 0 24),w24,0⟩,
⟨(r_nilCheck s24 0 25),w25,32⟩,
⟨(r_fieldAddr 12 s25 0 26),w26,96⟩,
⟨(r_load 1 false s26 0 27),w27,224⟩,
⟨(r_indexAddr 2 s23 s27 0 28),w28,511⟩,
⟨(r_load 2 true s28 0 29),w29,1023⟩,
⟨(r_mov s0 0 30),w30,0⟩,
⟨(r_nilCheck s30 0 31),w31,2048⟩,
⟨(r_fieldAddr 13 s31 0 32),w32,6144⟩,
⟨(r_fieldAddr 0 s32 0 33),w33,14336⟩,
⟨(r_load 1 false s33 0 34),w34,30720⟩,
⟨(r_callF 110 [s29,s34] 0 35),w35,65535⟩,
⟨(r_mov s35 0 18),w18,131071⟩,
⟨(r_extract s18 0 0 36),w36,262143⟩,
⟨(r_extract s18 1 0 37),w37,262143⟩,
⟨(r_extract s18 2 0 38),w38,262143⟩,
⟨(r_extract s18 3 0 39),w39,262143⟩,
⟨(r_mov s36 0 3),w3,524287⟩,
⟨(r_mov s37 0 4),w4,5242879⟩,
⟨(r_mov s38 0 5),w5,14680063⟩,
⟨(r_mov s39 0 6),w6,33554431⟩] 26)
(.seq (.seq (.region [qMov s3 w40,
qBin bEql .eql s40 (cu 0) w41] 2)
(.cond s41 (.seq (.seq (.region [qMov s0 w42,
seqO (r_nilCheck s42 0 43) w43,
qFad 13 s43 w44,
qFad 3 s44 w45,
qLd s45 w46,
qBin bNeq .neq s46 (cu 0) w47] 6)
(.cond s47 (.seq (.region [seqO (r_callF 130 [] 0 48) w48,
seqO (r_store 2 s2 s48 0 0) wN] 2)
.ret)
.skip))
(.seq (.region [qMov s0 w49,
seqO (r_call 205 [s49] 0 50) w50] 2)
(.seq (.seq (.region [qMov s0 w51,
seqO (r_nilCheck s51 0 52) w52,
qFad 12 s52 w53,
qLd s53 w54,
qBin bEql .eql s54 (cn 0) w55] 5)
(.cond s55 (.seq (.region [seqO (r_build [b0,i0] [(0,1,(cb 1))] 0 56) w56,
seqO (r_store 2 s2 s56 0 0) wN] 2)
.ret)
.skip))
(.seq (.region [seqO (r_build [b0,i0] [] 0 57) w57,
seqO (r_store 2 s2 s57 0 0) wN] 2)
.ret))))
.skip))
(.seq (.region [qMov s0 w58,
seqO (r_call 212 [s58] 0 59) w59,
qMov s59 w7] 3)
(.seq (.region [qMov s0 w60,
seqO (r_nilCheck s60 0 61) w61,
qFad 13 s61 w62,
qFad 3 s62 w63,
qLd s63 w64,
qBin bGtr .gtr s64 (cu 1) w65,
qMov s65 w8] 7)
(.seq (.seq (.region [qMov s8 w66] 1)
(.cond s66 (.seq (.draw [⟨(r_mov s0 0 68),w68,0⟩,
⟨(r_nilCheck s68 0 69),w69,1⟩,
⟨(r_fieldAddr 0 s69 0 70),w70,3⟩,
⟨(r_fieldAddr 7 s70 0 71),w71,7⟩,
⟨(r_load 2 true s71 0 72),w72,15⟩,
⟨(r_mov s0 0 73),w73,0⟩,
⟨(r_nilCheck s73 0 74),w74,32⟩,
⟨(r_fieldAddr 13 s74 0 75),w75,96⟩,
⟨(r_fieldAddr 4 s75 0 76),w76,224⟩,
⟨(r_load 1 false s76 0 77),w77,480⟩,
⟨(r_callF 204 [s72,s77] 0 78),w78,1023⟩,
⟨(r_mov s78 0 67),w67,2047⟩,
⟨(r_extract s67 0 0 79),w79,4095⟩,
⟨(r_extract s67 1 0 80),w80,4095⟩,
⟨(r_alloc [u0,u0,u0,u0,u0,u0,u0] 0 9),w9,0⟩,
⟨(r_store 7 s9 s79 0 0),wN,24575⟩,
⟨(r_mov s80 0 10),w10,65535⟩] 17)
(.seq (.seq (.draw [⟨(r_mov s10 0 81),w81,0⟩,
⟨(r_bin .neq s81 (cn 0) 0 82),w82,1⟩,
⟨(r_mov s82 0 83),w83,3⟩,
⟨gdR s83 false (r_mov s0 0 84),w84,7⟩,
⟨gdR s83 false (r_nilCheck s84 0 85),w85,15⟩,
⟨gdR s83 false (r_fieldAddr 13 s85 0 86),w86,31⟩,
⟨gdR s83 false (r_fieldAddr 4 s86 0 87),w87,63⟩,
⟨gdR s83 false (r_load 1 false s87 0 88),w88,127⟩,
⟨gdR s83 false (r_mov s0 0 89),w89,7⟩,
⟨gdR s83 false (r_call 68 [s89] 0 90),w90,263⟩,
⟨gdR s83 false (r_nilCheck s90 0 91),w91,775⟩,
⟨gdR s83 false (r_fieldAddr 4 s91 0 92),w92,1799⟩,
⟨gdR s83 false (r_load 1 false s92 0 93),w93,3847⟩,
⟨gdR s83 false (r_bin .neq s88 s93 0 94),w94,8191⟩,
⟨(r_pick s83 cT s94 0 95),w95,16383⟩,
⟨(r_mov s95 0 96),w96,32767⟩,
⟨gdR s96 false (r_fieldAddr 5 s9 0 97),w97,65535⟩,
⟨gdR s96 false (r_load 1 false s97 0 98),w98,131071⟩,
⟨gdR s96 false (r_mov s0 0 99),w99,65535⟩,
⟨gdR s96 false (r_nilCheck s99 0 100),w100,327679⟩,
⟨gdR s96 false (r_fieldAddr 13 s100 0 101),w101,851967⟩,
⟨gdR s96 false (r_fieldAddr 0 s101 0 102),w102,1900543⟩,
⟨gdR s96 false (r_load 1 false s102 0 103),w103,3997695⟩,
⟨gdR s96 false (r_bin .neq s98 s103 0 104),w104,8388607⟩,
⟨(r_pick s96 cT s104 0 105),w105,16777215⟩] 25)
(.cond s105 (.seq (.region [seqO (r_callF 130 [] 0 106) w106,
seqO (r_store 2 s2 s106 0 0) wN] 2)
.ret)
.skip))
(.seq (.seq (.region [qFad 4 s9 w107,
qLd s107 w108,
qBin (bGen .and) .and s108 (cu 1) w109,
qBin bNeq .neq s109 (cu 0) w110] 4)
(.cond s110 (.seq (.region [qMov s0 w111,
qFad 6 s9 w112,
qLd s112 w113,
seqO (r_call 213 [s111,s113] 0 114) w114,
seqO (r_store 2 s2 s114 0 0) wN] 5)
.ret)
.skip))
(.seq (.region [qFad 5 s9 w115,
seqO (r_store 1 s115 (cu 0) 0 0) wN,
qFad 6 s9 w116,
seqO (r_store 1 s116 (cu 0) 0 0) wN] 4)
(.draw [⟨(r_mov s0 0 118),w118,0⟩,
⟨(r_mov s0 0 119),w119,0⟩,
⟨(r_nilCheck s119 0 120),w120,2⟩,
⟨(r_fieldAddr 0 s120 0 121),w121,6⟩,
⟨(r_fieldAddr 7 s121 0 122),w122,14⟩,
⟨(r_load 2 true s122 0 123),w123,30⟩,
⟨(r_mov s0 0 124),w124,0⟩,
⟨(r_nilCheck s124 0 125),w125,64⟩,
⟨(r_fieldAddr 13 s125 0 126),w126,192⟩,
⟨(r_fieldAddr 4 s126 0 127),w127,448⟩,
⟨(r_load 1 false s127 0 128),w128,960⟩,
⟨(r_load 7 true s9 0 129),w129,0⟩,
⟨(r_call 206 [s123,s128,s129] 0 130),w130,4094⟩,
⟨(r_mov s130 0 117),w117,8190⟩,
⟨(r_extract s117 0 0 131),w131,16382⟩,
⟨(r_extract s117 1 0 132),w132,16382⟩,
⟨(r_nilCheck s118 0 133),w133,32767⟩,
⟨(r_fieldAddr 0 s133 0 134),w134,98303⟩,
⟨(r_fieldAddr 7 s134 0 135),w135,229375⟩,
⟨(r_store 2 s135 s131 0 0),wN,491519⟩] 20)))))
.skip))
(.seq (.draw [⟨(r_mov s0 0 137),w137,0⟩,
⟨(r_nilCheck s137 0 138),w138,1⟩,
⟨(r_fieldAddr 0 s138 0 139),w139,3⟩,
⟨(r_fieldAddr 9 s139 0 140),w140,7⟩,
⟨(r_load 1 false s140 0 141),w141,15⟩,
⟨(r_mov s0 0 142),w142,0⟩,
⟨(r_nilCheck s142 0 143),w143,32⟩,
⟨(r_fieldAddr 12 s143 0 144),w144,96⟩,
⟨(r_load 1 false s144 0 145),w145,224⟩,
⟨(r_indexAddr 2 s141 s145 0 146),w146,511⟩,
⟨(r_load 2 true s146 0 147),w147,1023⟩,
⟨(r_mov s0 0 148),w148,0⟩,
⟨(r_nilCheck s148 0 149),w149,2048⟩,
⟨(r_fieldAddr 0 s149 0 150),w150,6144⟩,
⟨(r_fieldAddr 0 s150 0 151),w151,14336⟩,
⟨(r_load 3 true s151 0 152),w152,30720⟩,
⟨(r_mov s0 0 153),w153,0⟩,
⟨(r_call 68 [s153] 0 154),w154,65536⟩,
⟨(r_nilCheck s154 0 155),w155,196608⟩,
⟨(r_fieldAddr 1 s155 0 156),w156,458752⟩,
⟨(r_load 1 false s156 0 157),w157,983040⟩,
⟨(r_call 59 [s147,s152,s157] 0 158),w158,2097151⟩,
⟨(r_mov s158 0 136),w136,4194303⟩,
⟨(r_extract s136 0 0 159),w159,8388607⟩,
⟨(r_extract s136 1 0 160),w160,8388607⟩,
⟨(r_mov s159 0 11),w11,16777215⟩,
⟨(r_mov s160 0 12),w12,67108863⟩] 27)
(.seq (.draw [⟨(r_mov s0 0 161),w161,0⟩,
⟨(r_mov s0 0 162),w162,0⟩,
⟨(r_call 68 [s162] 0 163),w163,2⟩,
⟨(r_nilCheck s163 0 164),w164,6⟩,
⟨(r_fieldAddr 2 s164 0 165),w165,14⟩,
⟨(r_load 1 false s165 0 166),w166,30⟩,
⟨(r_mov s0 0 167),w167,0⟩,
⟨(r_nilCheck s167 0 168),w168,64⟩,
⟨(r_fieldAddr 13 s168 0 169),w169,192⟩,
⟨(r_fieldAddr 0 s169 0 170),w170,448⟩,
⟨(r_load 1 false s170 0 171),w171,960⟩,
⟨(r_bin .sub s166 s171 0 172),w172,2046⟩,
⟨(r_conv .i64 s172 0 173),w173,4094⟩,
⟨(r_call 133 [s161,s173] 0 174),w174,8191⟩] 14)
(.seq (.region [qMov s0 w175,
seqO (r_call 68 [s175] 0 176) w176,
qMov s3 w177,
seqO (r_nilCheck s176 0 178) w178,
qFad 1 s178 w179,
seqO (r_store 1 s179 s177 0 0) wN] 6)
(.seq (.seq (.region [qMov s8 w180] 1)
(.cond s180 (.seq (.region [qMov s0 w181,
seqO (r_call 131 [s181] 0 182) w182,
seqO (r_store 2 s2 s182 0 0) wN] 3)
.ret)
.skip))
(.seq (.seq (.region [qMov s0 w183,
seqO (r_nilCheck s183 0 184) w184,
qFad 13 s184 w185,
qFad 3 s185 w186,
qLd s186 w187,
qBin bEql .eql s187 (cu 1) w188] 6)
(.cond s188 (.seq (.region [seqO (r_build [b0,i0] [] 0 189) w189,
seqO (r_store 2 s2 s189 0 0) wN] 2)
.ret)
.skip))
(.seq (.region [qMov s11 w190,
seqO (r_indexAddr 5 s190 (cn 1) 0 191) w191,
seqO (r_load 5 true s191 0 192) w192,
seqO (r_alloc [u0,i0,i0,u0,u0] 0 13) w13,
seqO (r_store 5 s13 s192 0 0) wN] 5)
(.seq (.draw [⟨(r_mov s0 0 193),w193,0⟩,
⟨(r_nilCheck s193 0 194),w194,1⟩,
⟨(r_fieldAddr 0 s194 0 195),w195,3⟩,
⟨(r_fieldAddr 0 s195 0 196),w196,7⟩,
⟨(r_fieldAddr 2 s196 0 197),w197,15⟩,
⟨(r_load 1 false s197 0 198),w198,31⟩,
⟨(r_fieldAddr 1 s13 0 199),w199,0⟩,
⟨(r_load 1 false s199 0 200),w200,64⟩,
⟨(r_indexAddr 7 s198 s200 0 201),w201,255⟩,
⟨(r_fieldAddr 4 s201 0 202),w202,511⟩,
⟨(r_load 1 false s202 0 203),w203,1023⟩,
⟨(r_fieldAddr 2 s13 0 204),w204,0⟩,
⟨(r_load 1 false s204 0 205),w205,2048⟩,
⟨(r_indexAddr 4 s203 s205 0 206),w206,8191⟩,
⟨(r_load 4 true s206 0 207),w207,16383⟩,
⟨(r_alloc [b0,i0,i0,i0] 0 14),w14,0⟩,
⟨(r_store 4 s14 s207 0 0),wN,65535⟩] 17)
(.seq (.seq (.draw [⟨(r_fieldAddr 0 s14 0 208),w208,0⟩,
⟨(r_load 1 false s208 0 209),w209,1⟩,
⟨(r_bin .neq s209 (cb 25) 0 210),w210,3⟩,
⟨(r_mov s210 0 211),w211,7⟩,
⟨gdR s211 false (r_fieldAddr 2 s14 0 212),w212,15⟩,
⟨gdR s211 false (r_load 1 false s212 0 213),w213,31⟩,
⟨gdR s211 false (r_mov s0 0 214),w214,15⟩,
⟨gdR s211 false (r_nilCheck s214 0 215),w215,79⟩,
⟨gdR s211 false (r_fieldAddr 13 s215 0 216),w216,207⟩,
⟨gdR s211 false (r_fieldAddr 1 s216 0 217),w217,463⟩,
⟨gdR s211 false (r_load 1 false s217 0 218),w218,975⟩,
⟨gdR s211 false (r_bin .neq s213 s218 0 219),w219,2047⟩,
⟨(r_pick s211 cT s219 0 220),w220,4095⟩] 13)
(.cond s220 (.seq (.region [seqO (r_callF 130 [] 0 221) w221,
seqO (r_store 2 s2 s221 0 0) wN] 2)
.ret)
.skip))
(.seq (.seq (.region [qFad 1 s14 w222,
qLd s222 w223,
qBin bGeq .geq s223 (cn 0) w224] 3)
(.cond s224 (.seq (.region [qMov s0 w226,
seqO (r_load 5 true s13 0 227) w227,
qFad 1 s14 w228,
qLd s228 w229,
seqO (r_call 141 [s226,s227,s229] 0 230) w230,
qMov s230 w225,
seqO (r_extract s225 0 0 231) w231,
seqO (r_extract s225 1 0 232) w232,
seqO (r_extract s225 2 0 233) w233,
qMov s231 w15,
qMov s232 w16,
qMov s233 w17] 12)
(.draw [⟨(r_mov s0 0 234),w234,0⟩,
⟨(r_nilCheck s234 0 235),w235,1⟩,
⟨(r_fieldAddr 0 s235 0 236),w236,3⟩,
⟨(r_fieldAddr 9 s236 0 237),w237,7⟩,
⟨(r_load 1 false s237 0 238),w238,15⟩,
⟨(r_mov s0 0 239),w239,0⟩,
⟨(r_nilCheck s239 0 240),w240,32⟩,
⟨(r_fieldAddr 12 s240 0 241),w241,96⟩,
⟨(r_load 1 false s241 0 242),w242,224⟩,
⟨(r_indexAddr 2 s238 s242 0 243),w243,511⟩,
⟨(r_fieldAddr 1 s243 0 244),w244,1023⟩,
⟨(r_load 1 false s244 0 245),w245,2047⟩,
⟨(r_mov s15 0 246),w246,0⟩,
⟨(r_slice 1 s245 (some s246) none none 0 247),w247,8191⟩,
⟨(r_mov s7 0 248),w248,0⟩,
⟨(r_copy 1 s247 s248 0 249),w249,32767⟩] 16))
.skip))
(.seq (.region [seqO (r_build [b0,i0] [] 0 250) w250,
seqO (r_store 2 s2 s250 0 0) wN] 2)
.ret)))))))))))))))),true⟩
def q141:QFn:=⟨3,[.t s6,.t s7,.t s8],
(.seq (.region [seqO (r_box s1 0 4) w4,
qMov (cn 0) w6,
qMov (cn 0) w7,
qMov (cn 0) w8] 4)
(.seq (.draw [⟨(r_mov s0 0 16),w16,0⟩,
⟨(r_nilCheck s16 0 17),w17,1⟩,
⟨(r_fieldAddr 0 s17 0 18),w18,3⟩,
⟨(r_fieldAddr 0 s18 0 19),w19,7⟩,
⟨(r_load 3 true s19 0 20),w20,15⟩,
⟨(r_fieldAddr 1 s4 0 21),w21,0⟩,
⟨(r_load 1 false s21 0 22),w22,32⟩,
⟨(r_mov s2 0 23),w23,0⟩,
⟨(r_callF 214 [s20,s22,s23] 0 24),w24,255⟩,
⟨(r_mov s24 0 15),w15,511⟩,
⟨(r_extract s15 0 0 25),w25,1023⟩,
⟨(r_extract s15 1 0 26),w26,1023⟩,
⟨(r_extract s15 2 0 27),w27,1023⟩,
⟨(r_mov s25 0 9),w9,2047⟩,
⟨(r_mov s26 0 10),w10,12287⟩,
⟨(r_mov s27 0 11),w11,32767⟩] 16)
(.seq (.region [qMov s0 w29,
seqO (r_nilCheck s29 0 30) w30,
qFad 0 s30 w31,
qFad 0 s31 w32,
qFad 0 s32 w33,
qLd s33 w34,
qMov s10 w35,
seqO (r_callF 132 [s34,s35] 0 36) w36,
qMov s36 w28,
seqO (r_extract s28 0 0 37) w37,
seqO (r_extract s28 1 0 38) w38,
seqO (r_extract s28 2 0 39) w39,
qMov s37 w12,
qMov s38 w13,
qMov s39 w14] 15)
(.seq (.draw [⟨(r_fieldAddr 0 s4 0 40),w40,0⟩,
⟨(r_load 1 false s40 0 41),w41,1⟩,
⟨(r_mov s0 0 42),w42,0⟩,
⟨(r_nilCheck s42 0 43),w43,4⟩,
⟨(r_fieldAddr 0 s43 0 44),w44,12⟩,
⟨(r_fieldAddr 9 s44 0 45),w45,28⟩,
⟨(r_load 1 false s45 0 46),w46,60⟩,
⟨(r_mov s0 0 47),w47,0⟩,
⟨(r_nilCheck s47 0 48),w48,128⟩,
⟨(r_fieldAddr 12 s48 0 49),w49,384⟩,
⟨(r_load 1 false s49 0 50),w50,896⟩,
⟨(r_indexAddr 2 s46 s50 0 51),w51,2044⟩,
⟨(r_fieldAddr 0 s51 0 52),w52,4092⟩,
⟨(r_load 1 false s52 0 53),w53,8188⟩,
⟨(r_bin .sub s41 s53 0 54),w54,16383⟩,
⟨(r_conv .i64 s54 0 55),w55,32767⟩,
⟨(r_mov s9 0 56),w56,0⟩,
⟨(r_bin .add s55 s56 0 57),w57,131071⟩,
⟨(r_mov s12 0 58),w58,0⟩,
⟨(r_mov s10 0 59),w59,0⟩,
⟨(r_mov s57 0 6),w6,262143⟩,
⟨(r_mov s58 0 7),w7,1572863⟩,
⟨(r_mov s59 0 8),w8,4194303⟩] 23)
.ret)))),true⟩
def q142:QFn:=⟨2,[.t s4],
(.seq (.region [seqO (r_box s0 0 2) w2,
qMov (cn 0) w4] 2)
(.seq (.seq (.region [qFad 0 s2 w5,
qLd s5 w6,
qBin bNeq .neq s6 (cu 65536) w7,
qMov s7 w8,
gdO s8 false w9 (qFad 1 s2 w9),
gdO s8 false w10 (qLd s9 w10),
gdO s8 false w11 (seqO (r_len s10 0 11) w11),
gdO s8 false w12 (qBin (bGen .rem) .rem s11 (cn 8) w12),
gdO s8 false w13 (qBin bNeq .neq s12 (cn 0) w13),
qPick s8 cT s13 w14,
qMov s14 w15,
gdO s15 false w16 (qFad 1 s2 w16),
gdO s15 false w17 (qLd s16 w17),
gdO s15 false w18 (seqO (r_len s17 0 18) w18),
gdO s15 false w19 (qBin bGtr .gtr s18 (cn 16384) w19),
qPick s15 cT s19 w20] 16)
(.cond s20 (.seq (.region [qMov (cn 8) w4] 1)
.ret)
.skip))
(.seq (.seq (.region [qMov s1 w21,
qBin bLss .lss s21 (cn 0) w22,
qMov s22 w23,
gdO s23 false w24 (qMov s1 w24),
gdO s23 false w25 (qBin bGtr .gtr s24 (cn 16384) w25),
qPick s23 cT s25 w26] 6)
(.cond s26 (.seq (.region [qMov (cn 2) w4] 1)
.ret)
.skip))
(.seq (.region [qMov (cn 0) w4] 1)
.ret)))),false⟩
def q143:QFn:=⟨3,[.t s6,.t s7],
(.seq (.region [seqO (r_box s0 0 3) w3,
qMov cF w6,
qMov (cn 0) w7] 3)
(.seq (.seq (.region [seqO (r_load 2 true s3 0 11) w11,
seqO (r_callF 36 [s11] 0 12) w12,
qMov s12 w8] 3)
(.seq (.region [qMov s8 w13,
qBin bNeq .neq s13 (cn 0) w14] 2)
(.cond s14 (.seq (.region [qMov s8 w15,
qMov cF w6,
qMov s15 w7] 3)
.ret)
.skip)))
(.seq (.seq (.region [qMov s2 w16,
qBin bLss .lss s16 (cn 0) w17] 2)
(.cond s17 (.seq (.region [qMov cF w6,
qMov (cn 2) w7] 2)
.ret)
.skip))
(.seq (.region [seqO (r_load 2 true s3 0 19) w19,
qMov s1 w20,
qMov s2 w21,
seqO (r_callF 215 [s19,s20,s21] 0 22) w22,
qMov s22 w18,
seqO (r_extract s18 0 0 23) w23,
seqO (r_extract s18 1 0 24) w24,
qMov s23 w9,
qMov s24 w10] 9)
(.seq (.region [qMov s10 w25,
qMov s25 w6,
qMov (cn 0) w7] 3)
.ret))))),false⟩
def q144:QFn:=⟨3,[.t s6,.t s7],
(.seq (.region [seqO (r_box s0 0 3) w3,
qMov (cu 0) w6,
qMov (cn 0) w7] 3)
(.seq (.region [seqO (r_load 2 true s3 0 13) w13,
qMov s1 w14,
qMov s2 w15,
seqO (r_callF 216 [s13,s14,s15] 0 16) w16,
qMov s16 w12,
seqO (r_extract s12 0 0 17) w17,
seqO (r_extract s12 1 0 18) w18,
qMov s17 w8,
qMov s18 w9] 9)
(.seq (.seq (.region [qMov s9 w19,
qBin bNeq .neq s19 (cn 0) w20] 2)
(.cond s20 (.seq (.region [qMov s9 w21,
qMov (cu 0) w6,
qMov s21 w7] 3)
.ret)
.skip))
(.seq (.region [qMov (cu 0) w10] 1)
(.seq (.seq (.region [qMov s2 w22,
qBin bSub .sub s22 (cn 1) w23,
qMov s23 w11] 3)
(.block 0 (.loop (.seq (.seq (.region [qMov s11 w24,
qBin bGeq .geq s24 (cn 0) w25] 2)
(.cond s25 .skip
(.exit 0)))
(.seq (.block 1 (.region [qMov s10 w28,
qBin (bGen .shl) .shl s28 (cu 8) w29,
qFad 1 s3 w30,
qLd s30 w31,
qMov s8 w32,
qMov s11 w33,
qBin bAdd .add s32 s33 w34,
seqO (r_indexAddr 1 s31 s34 0 35) w35,
qLd s35 w36,
seqO (r_conv .u64 s36 0 37) w37,
qBin (bGen .or) .or s29 s37 w38,
qMov s38 w10] 12))
(.region [qMov s11 w26,
qBin bSub .sub s26 (cn 1) w27,
qMov s27 w11] 3))))))
(.seq (.region [qMov s10 w39,
qMov s39 w6,
qMov (cn 0) w7] 3)
.ret)))))),false⟩
def q145:QFn:=⟨2,[.t s4,.t s5],
(.seq (.region [seqO (r_box s0 0 2) w2,
qMov (cn 0) w4,
qMov (cn 0) w5] 3)
(.seq (.region [seqO (r_load 3 true s2 0 9) w9,
qMov s1 w10,
seqO (r_callF 56 [s9,s10] 0 11) w11,
qMov s11 w8,
seqO (r_extract s8 0 0 12) w12,
seqO (r_extract s8 1 0 13) w13,
qMov s12 w6,
qMov s13 w7] 8)
(.seq (.seq (.draw [⟨(r_mov s7 0 14),w14,0⟩,
⟨(r_bin .eql s14 (cn 0) 0 15),w15,1⟩,
⟨(r_mov s15 0 16),w16,3⟩,
⟨gdR s16 true (r_load 3 true s2 0 17),w17,7⟩,
⟨gdR s16 true (r_mov s1 0 18),w18,7⟩,
⟨gdR s16 true (r_call 57 [s17,s18] 0 19),w19,31⟩,
⟨gdR s16 true (r_fieldAddr 2 s2 0 20),w20,7⟩,
⟨gdR s16 true (r_load 1 false s20 0 21),w21,71⟩,
⟨gdR s16 true (r_mov s1 0 22),w22,7⟩,
⟨gdR s16 true (r_indexAddr 7 s21 s22 0 23),w23,455⟩,
⟨gdR s16 true (r_load 7 true s23 0 24),w24,967⟩,
⟨gdR s16 true (r_callF 87 [s19,s24] 0 25),w25,2047⟩,
⟨gdR s16 true (r_un .not s25 0 26),w26,4095⟩,
⟨(r_pick s16 s26 cF 0 27),w27,8191⟩] 14)
(.cond s27 (.seq (.region [qMov (cm 0) w4,
qMov (cn 32) w5] 2)
.ret)
.skip))
(.seq (.region [qMov s6 w28,
qMov s7 w29,
qMov s28 w4,
qMov s29 w5] 4)
.ret)))),false⟩
def q146:QFn:=⟨1,[.t s2],
(.seq (.region [seqO (r_box s0 0 1) w1,
qMov cF w2] 2)
(.seq (.region [qFad 0 s1 w3,
qLd s3 w4,
qBin bGeq .geq s4 (cn 1) w5,
qMov s5 w6,
gdO s6 true w7 (qFad 0 s1 w7),
gdO s6 true w8 (qLd s7 w8),
gdO s6 true w9 (qBin bLeq .leq s8 (cn 5000) w9),
qPick s6 s9 cF w10,
qMov s10 w11,
gdO s11 true w12 (qFad 1 s1 w12),
gdO s11 true w13 (qLd s12 w13),
gdO s11 true w14 (qBin bGeq .geq s13 (cn 0) w14),
qPick s11 s14 cF w15,
qMov s15 w16,
gdO s16 true w17 (qFad 1 s1 w17),
gdO s16 true w18 (qLd s17 w18),
gdO s16 true w19 (qBin bLeq .leq s18 (cn 4096) w19),
qPick s16 s19 cF w20,
qMov s20 w21,
gdO s21 true w22 (qFad 2 s1 w22),
gdO s21 true w23 (qLd s22 w23),
gdO s21 true w24 (qBin bGeq .geq s23 (cn 0) w24),
qPick s21 s24 cF w25,
qMov s25 w26,
gdO s26 true w27 (qFad 2 s1 w27),
gdO s26 true w28 (qLd s27 w28),
gdO s26 true w29 (qBin bLeq .leq s28 (cn 16384) w29),
qPick s26 s29 cF w30,
qMov s30 w31,
gdO s31 true w32 (qFad 3 s1 w32),
gdO s31 true w33 (qLd s32 w33),
gdO s31 true w34 (qBin bGeq .geq s33 (cn 1) w34),
qPick s31 s34 cF w35,
qMov s35 w36,
gdO s36 true w37 (qFad 3 s1 w37),
gdO s36 true w38 (qLd s37 w38),
gdO s36 true w39 (qBin bLeq .leq s38 (cn 16) w39),
qPick s36 s39 cF w40,
qMov s40 w2] 39)
.ret)),false⟩
def q147:QFn:=⟨1,[.t s2],
(.seq (.region [qMov cF w2] 1)
(.seq (.region [qMov s0 w3,
qBin (bGen .quo) .quo s3 (cu 256) w4,
qBin bGeq .geq s4 (cu 1) w5,
qMov s5 w6,
gdO s6 true w7 (qMov s0 w7),
gdO s6 true w8 (qBin (bGen .quo) .quo s7 (cu 256) w8),
gdO s6 true w9 (qBin bLeq .leq s8 (cu 32) w9),
qPick s6 s9 cF w10,
qMov s10 w2] 9)
.ret)),false⟩
def q148:QFn:=⟨1,[.t s2],
(.seq (.region [qMov cF w2] 1)
(.seq (.region [qMov s0 w3,
qBin bEql .eql s3 (cu 0) w4,
qMov s4 w5,
gdO s5 false w6 (qMov s0 w6),
gdO s5 false w7 (qBin bGeq .geq s6 (cu 65536) w7),
gdO s5 false w8 (qMov s7 w8),
gdO s8 true w9 (qMov s0 w9),
gdO s8 true w10 (qBin (bGen .rem) .rem s9 (cu 8) w10),
gdO s8 true w11 (qBin bEql .eql s10 (cu 0) w11),
gdO s5 false w12 (qPick s8 s11 cF w12),
qPick s5 cT s12 w13,
qMov s13 w2] 12)
.ret)),false⟩
def q149:QFn:=⟨2,[.t s4],
(.seq (.region [qMov (cu 0) w4] 1)
(.seq (.region [qMov (cu 0) w5] 1)
(.seq (.seq (.region [qMov (cn 0) w6] 1)
(.block 0 (.loop (.seq (.seq (.region [qMov s6 w7,
qMov s0 w8,
seqO (r_len s8 0 9) w9,
qBin bLss .lss s7 s9 w10] 4)
(.cond s10 .skip
(.exit 0)))
(.seq (.block 1 (.seq (.region [qMov s0 w13,
qMov s6 w14,
seqO (r_indexAddr 2 s13 s14 0 15) w15,
qFad 0 s15 w16,
qLd s16 w17,
qMov s1 w18,
qBin bLeq .leq s17 s18 w19] 7)
(.cond s19 (.region [qMov s0 w20,
qMov s6 w21,
seqO (r_indexAddr 2 s20 s21 0 22) w22,
qFad 1 s22 w23,
qLd s23 w24,
qMov s24 w5] 6)
.skip)))
(.region [qMov s6 w11,
qBin bAdd .add s11 (cn 1) w12,
qMov s12 w6] 3))))))
(.seq (.region [qMov s5 w25,
qMov s25 w4] 2)
.ret)))),false⟩
def q150:QFn:=⟨3,[.t s6],
(.seq (.region [seqO (r_box s0 0 3) w3,
qMov cF w6] 2)
(.seq (.seq (.region [qMov s2 w7,
qBin bGtr .gtr s7 (cn 20000) w8,
qMov s8 w9,
gdO s9 false w10 (qMov s1 w10),
gdO s9 false w11 (qBin bGtr .gtr s10 (cu 2199023255552) w11),
qPick s9 cT s11 w12] 6)
(.cond s12 (.seq (.region [qMov cF w6] 1)
.ret)
.skip))
(.seq (.region [qMov s1 w13,
qFad 0 s3 w14,
qLd s14 w15,
qBin bGeq .geq s13 s15 w16,
qMov s16 w17,
gdO s17 true w18 (qMov s1 w18),
gdO s17 true w19 (qMov s2 w19),
gdO s17 true w20 (seqO (r_conv .u64 s19 0 20) w20),
gdO s17 true w21 (qBin bAdd .add s18 s20 w21),
gdO s17 true w22 (qFad 0 s3 w22),
gdO s17 true w23 (qLd s22 w23),
gdO s17 true w24 (qFad 1 s3 w24),
gdO s17 true w25 (qLd s24 w25),
gdO s17 true w26 (seqO (r_len s25 0 26) w26),
gdO s17 true w27 (seqO (r_conv .u64 s26 0 27) w27),
gdO s17 true w28 (qBin bAdd .add s23 s27 w28),
gdO s17 true w29 (qBin bLeq .leq s21 s28 w29),
qPick s17 s29 cF w30,
qMov s30 w6] 19)
.ret))),false⟩
def q151:QFn:=⟨3,[.t s6],
(.seq (.region [seqO (r_box s0 0 3) w3,
qMov (cu 0) w6] 2)
(.seq (.region [qMov (cu 0) w7,
qMov (cu 1) w8] 2)
(.seq (.seq (.region [qMov (cn 0) w9] 1)
(.block 0 (.loop (.seq (.seq (.region [qMov s9 w10,
qMov s2 w11,
qBin bLss .lss s10 s11 w12] 3)
(.cond s12 .skip
(.exit 0)))
(.seq (.block 1 (.seq (.region [qMov s7 w15,
qMov s8 w16,
qFad 1 s3 w17,
qLd s17 w18,
qMov s1 w19,
qFad 0 s3 w20,
qLd s20 w21,
qBin bSub .sub s19 s21 w22,
qMov s9 w23,
seqO (r_conv .u64 s23 0 24) w24,
qBin bAdd .add s22 s24 w25,
seqO (r_indexAddr 1 s18 s25 0 26) w26,
qLd s26 w27,
seqO (r_conv .u64 s27 0 28) w28,
qBin (bGen .mul) .mul s16 s28 w29,
qBin bAdd .add s15 s29 w30,
qMov s30 w7] 17)
(.region [qMov s8 w31,
qBin (bGen .mul) .mul s31 (cu 256) w32,
qMov s32 w8] 3)))
(.region [qMov s9 w13,
qBin bAdd .add s13 (cn 1) w14,
qMov s14 w9] 3))))))
(.seq (.region [qMov s7 w33,
qMov s33 w6] 2)
.ret)))),false⟩
def q152:QFn:=⟨2,[.t s4],
(.seq (.region [qMov cF w4] 1)
(.seq (.region [qMov s0 w5,
qBin bEql .eql s5 (cu 0) w6,
qMov s6 w7,
gdO s7 false w8 (qMov s0 w8),
gdO s7 false w9 (qBin bEql .eql s8 (cu 1) w9),
qPick s7 cT s9 w10,
qMov s10 w11,
gdO s11 true w12 (qMov s1 w12),
gdO s11 true w13 (qBin bEql .eql s12 (cu 0) w13),
qPick s11 s13 cF w14,
qMov s14 w15,
gdO s15 false w16 (qMov s0 w16),
gdO s15 false w17 (qBin bEql .eql s16 (cu 2) w17),
gdO s15 false w18 (qMov s17 w18),
gdO s18 false w19 (qMov s0 w19),
gdO s18 false w20 (qBin bEql .eql s19 (cu 3) w20),
gdO s15 false w21 (qPick s18 cT s20 w21),
gdO s15 false w22 (qMov s21 w22),
gdO s22 true w23 (qMov s1 w23),
gdO s22 true w24 (qBin bGtr .gtr s23 (cu 0) w24),
gdO s15 false w25 (qPick s22 s24 cF w25),
qPick s15 cT s25 w26,
qMov s26 w4] 23)
.ret)),false⟩
def q153:QFn:=⟨2,[.t s4],
(.seq (.region [qMov cF w4] 1)
(.seq (.seq (.region [qMov s0 w6,
seqO (r_len s6 0 7) w7,
qMov s1 w8,
seqO (r_len s8 0 9) w9,
qBin bNeq .neq s7 s9 w10] 5)
(.cond s10 (.seq (.region [qMov cF w4] 1)
.ret)
.skip))
(.seq (.seq (.region [qMov (cn 0) w5] 1)
(.block 0 (.loop (.seq (.seq (.region [qMov s5 w11,
qMov s0 w12,
seqO (r_len s12 0 13) w13,
qBin bLss .lss s11 s13 w14] 4)
(.cond s14 .skip
(.exit 0)))
(.seq (.block 1 (.seq (.draw [⟨(r_mov s0 0 17),w17,0⟩,
⟨(r_mov s5 0 18),w18,0⟩,
⟨(r_indexAddr 2 s17 s18 0 19),w19,3⟩,
⟨(r_load 2 true s19 0 20),w20,7⟩,
⟨(r_mov s1 0 21),w21,0⟩,
⟨(r_mov s5 0 22),w22,0⟩,
⟨(r_indexAddr 2 s21 s22 0 23),w23,48⟩,
⟨(r_load 2 true s23 0 24),w24,112⟩,
⟨(r_eqA true 2 [(0,2),(1,1)] s20 s24 0 25),w25,255⟩] 9)
(.cond s25 (.seq (.region [qMov cF w4] 1)
.ret)
.skip)))
(.region [qMov s5 w15,
qBin bAdd .add s15 (cn 1) w16,
qMov s16 w5] 3))))))
(.seq (.region [qMov cT w4] 1)
.ret)))),false⟩
def q154:QFn:=⟨2,[.t s4],
(.seq (.region [qMov cF w4] 1)
(.seq (.seq (.region [qMov s0 w6,
seqO (r_len s6 0 7) w7,
qMov s1 w8,
seqO (r_len s8 0 9) w9,
qBin bNeq .neq s7 s9 w10] 5)
(.cond s10 (.seq (.region [qMov cF w4] 1)
.ret)
.skip))
(.seq (.seq (.region [qMov (cn 0) w5] 1)
(.block 0 (.loop (.seq (.seq (.region [qMov s5 w11,
qMov s0 w12,
seqO (r_len s12 0 13) w13,
qBin bLss .lss s11 s13 w14] 4)
(.cond s14 .skip
(.exit 0)))
(.seq (.block 1 (.seq (.draw [⟨(r_mov s0 0 17),w17,0⟩,
⟨(r_mov s5 0 18),w18,0⟩,
⟨(r_indexAddr 4 s17 s18 0 19),w19,3⟩,
⟨(r_load 4 true s19 0 20),w20,7⟩,
⟨(r_mov s1 0 21),w21,0⟩,
⟨(r_mov s5 0 22),w22,0⟩,
⟨(r_indexAddr 4 s21 s22 0 23),w23,48⟩,
⟨(r_load 4 true s23 0 24),w24,112⟩,
⟨(r_eqA true 4 [(0,1),(1,1),(2,1),(3,1)] s20 s24 0 25),w25,255⟩] 9)
(.cond s25 (.seq (.region [qMov cF w4] 1)
.ret)
.skip)))
(.region [qMov s5 w15,
qBin bAdd .add s15 (cn 1) w16,
qMov s16 w5] 3))))))
(.seq (.region [qMov cT w4] 1)
.ret)))),false⟩
def q155:QFn:=⟨2,[.t s4],
(.seq (.region [qMov cF w4] 1)
(.seq (.seq (.region [qMov s0 w6,
seqO (r_len s6 0 7) w7,
qMov s1 w8,
seqO (r_len s8 0 9) w9,
qBin bNeq .neq s7 s9 w10] 5)
(.cond s10 (.seq (.region [qMov cF w4] 1)
.ret)
.skip))
(.seq (.seq (.region [qMov (cn 0) w5] 1)
(.block 0 (.loop (.seq (.seq (.region [qMov s5 w11,
qMov s0 w12,
seqO (r_len s12 0 13) w13,
qBin bLss .lss s11 s13 w14] 4)
(.cond s14 .skip
(.exit 0)))
(.seq (.block 1 (.seq (.draw [⟨(r_mov s0 0 17),w17,0⟩,
⟨(r_mov s5 0 18),w18,0⟩,
⟨(r_indexAddr 2 s17 s18 0 19),w19,3⟩,
⟨(r_load 2 true s19 0 20),w20,7⟩,
⟨(r_mov s1 0 21),w21,0⟩,
⟨(r_mov s5 0 22),w22,0⟩,
⟨(r_indexAddr 2 s21 s22 0 23),w23,48⟩,
⟨(r_load 2 true s23 0 24),w24,112⟩,
⟨(r_eqA true 2 [(0,1),(1,1)] s20 s24 0 25),w25,255⟩] 9)
(.cond s25 (.seq (.region [qMov cF w4] 1)
.ret)
.skip)))
(.region [qMov s5 w15,
qBin bAdd .add s15 (cn 1) w16,
qMov s16 w5] 3))))))
(.seq (.region [qMov cT w4] 1)
.ret)))),false⟩
def q156:QFn:=⟨2,[.t s4],
(.seq (.region [seqO (r_box s0 0 2) w2,
qMov (cn 0) w4] 2)
(.seq (.seq (.region [seqO (r_load 2 true s2 0 5) w5,
seqO (r_callF 39 [s5] 0 6) w6,
seqO (r_un .not s6 0 7) w7] 3)
(.cond s7 (.seq (.region [qMov (cn 8) w4] 1)
.ret)
.skip))
(.seq (.seq (.region [qMov s1 w8,
qBin bLss .lss s8 (cn 0) w9,
qMov s9 w10,
gdO s10 false w11 (qMov s1 w11),
gdO s10 false w12 (qBin bGtr .gtr s11 (cn 16384) w12),
qPick s10 cT s12 w13] 6)
(.cond s13 (.seq (.region [qMov (cn 2) w4] 1)
.ret)
.skip))
(.seq (.region [qMov (cn 0) w4] 1)
.ret)))),false⟩
def q157:QFn:=⟨3,[.t s6],
(.seq (.region [seqO (r_box s0 0 3) w3,
qMov cF w6] 2)
(.seq (.draw [⟨(r_fieldAddr 1 s3 0 7),w7,0⟩,
⟨(r_load 1 false s7 0 8),w8,1⟩,
⟨(r_len s8 0 9),w9,3⟩,
⟨(r_mov s1 0 10),w10,0⟩,
⟨(r_callF 217 [s10] 0 11),w11,8⟩,
⟨(r_bin .add s9 s11 0 12),w12,31⟩,
⟨(r_mov s2 0 13),w13,0⟩,
⟨(r_bin .leq s12 s13 0 14),w14,127⟩,
⟨(r_mov s14 0 6),w6,255⟩] 9)
.ret)),false⟩
def q158:QFn:=⟨2,[.cell s4 2 true,.t s5],
(.seq (.region [seqO (r_box s0 0 2) w2,
seqO (r_alloc [u0,oF] 0 4) w4,
qMov (cu 0) w5] 3)
(.seq (.region [seqO (r_load 2 true s2 0 8) w8,
seqO (r_call 27 [s8] 65538 9) w9,
seqO (r_alloc [u0,oF] 0 6) w6,
seqO (r_store 2 s6 s9 0 0) wN] 4)
(.seq (.seq (.region [qMov (cn 0) w7] 1)
(.block 0 (.loop (.seq (.seq (.region [qMov s7 w10,
qMov s1 w11,
seqO (r_callF 217 [s11] 0 12) w12,
qBin bLss .lss s10 s12 w13] 4)
(.cond s13 .skip
(.exit 0)))
(.seq (.block 1 (.region [qFad 1 s6 w16,
qLd s16 w17,
seqO (r_buildSlice 1 1 [db] [(0,(cb 0))] 0 18) w18,
seqO (r_append 1 1 s17 s18 1 19) w19,
qFad 1 s6 w20,
seqO (r_store 1 s20 s19 0 0) wN] 6))
(.region [qMov s7 w14,
qBin bAdd .add s14 (cn 1) w15,
qMov s15 w7] 3))))))
(.seq (.draw [⟨(r_load 2 true s6 0 21),w21,0⟩,
⟨(r_fieldAddr 1 s2 0 22),w22,0⟩,
⟨(r_load 1 false s22 0 23),w23,2⟩,
⟨(r_len s23 0 24),w24,6⟩,
⟨(r_conv .u64 s24 0 25),w25,14⟩,
⟨(r_bin .add (cu 65536) s25 0 26),w26,30⟩,
⟨(r_store 2 s4 s21 0 0),wN,1⟩,
⟨(r_mov s26 0 5),w5,127⟩] 8)
.ret)))),false⟩
def q159:QFn:=⟨3,[.t s6,.t s7,.t s8],
(.seq (.region [qMov (cK oF) w6,
qMov (cn 0) w7,
qMov (cn 0) w8] 3)
(.seq (.region [qMov (cK oF) w9] 1)
(.seq (.region [qMov (cn 0) w10,
qMov (cn 1) w11] 2)
(.seq (.seq (.region [qMov (cn 0) w12] 1)
(.block 0 (.loop (.seq (.seq (.region [qMov s12 w15,
qMov s2 w16,
seqO (r_len s16 0 17) w17,
qBin bLss .lss s15 s17 w18] 4)
(.cond s18 .skip
(.exit 0)))
(.seq (.block 1 (.seq (.region [qMov s2 w21,
qMov s12 w22,
seqO (r_indexAddr 2 s21 s22 0 23) w23,
qFad 1 s23 w24,
qLd s24 w25,
qMov s25 w13] 6)
(.seq (.region [qMov s10 w26,
qMov s1 w27,
qMov s13 w28,
seqO (r_indexAddr 1 s27 s28 0 29) w29,
qLd s29 w30,
seqO (r_callF 91 [s26,s30] 0 31) w31,
qMov s31 w14] 7)
(.seq (.region [qMov s9 w32,
qMov s14 w33,
seqO (r_buildSlice 1 1 [di] [(0,s33)] 0 34) w34,
seqO (r_append 1 8 s32 s34 0 35) w35,
qMov s35 w9] 5)
(.seq (.region [qMov s14 w36,
qMov s0 w37,
qMov s13 w38,
seqO (r_indexAddr 1 s37 s38 0 39) w39,
qLd s39 w40,
qBin bAdd .add s36 s40 w41,
seqO (r_mini (cn 1000000) s41 0 42) w42,
qMov s42 w10] 8)
(.region [qMov s11 w43,
qMov s1 w44,
qMov s13 w45,
seqO (r_indexAddr 1 s44 s45 0 46) w46,
qLd s46 w47,
seqO (r_maxi s43 s47 0 48) w48,
qMov s48 w11] 7))))))
(.region [qMov s12 w19,
qBin bAdd .add s19 (cn 1) w20,
qMov s20 w12] 3))))))
(.seq (.region [qMov s9 w49,
qMov s10 w50,
qMov s11 w51,
seqO (r_callF 91 [s50,s51] 0 52) w52,
seqO (r_mini (cn 1000000) s52 0 53) w53,
qMov s11 w54,
qMov s49 w6,
qMov s53 w7,
qMov s54 w8] 9)
.ret))))),false⟩
def q160:QFn:=⟨1,[.t s2],
(.seq (.region [qMov (cn 0) w2] 1)
(.seq (.seq (.region [qMov s0 w6,
seqO (r_len s6 0 7) w7,
qBin bGtr .gtr s7 (cn 32) w8] 3)
(.cond s8 (.seq (.region [qMov (cn 8) w2] 1)
.ret)
.skip))
(.seq (.seq (.region [qMov (cn 0) w3] 1)
(.block 0 (.loop (.seq (.seq (.region [qMov s3 w9,
qMov s0 w10,
seqO (r_len s10 0 11) w11,
qBin bLss .lss s9 s11 w12] 4)
(.cond s12 .skip
(.exit 0)))
(.seq (.block 1 (.seq (.region [qMov s0 w15,
qMov s3 w16,
seqO (r_callF 218 [s15,s16] 0 17) w17,
seqO (r_un .not s17 0 18) w18] 4)
(.cond s18 (.seq (.region [qMov (cn 8) w2] 1)
.ret)
.skip)))
(.region [qMov s3 w13,
qBin bAdd .add s13 (cn 1) w14,
qMov s14 w3] 3))))))
(.seq (.region [qMov s0 w19,
seqO (r_call 219 [s19,(cn 3)] 0 20) w20,
qMov s20 w4] 3)
(.seq (.seq (.region [qMov (cn 0) w5] 1)
(.block 2 (.loop (.seq (.seq (.region [qMov s5 w21,
qMov s0 w22,
seqO (r_len s22 0 23) w23,
qBin bLss .lss s21 s23 w24] 4)
(.cond s24 .skip
(.exit 2)))
(.seq (.block 3 (.seq (.region [qMov s4 w27,
qMov s5 w28,
seqO (r_indexAddr 1 s27 s28 0 29) w29,
qLd s29 w30,
qBin bGtr .gtr s30 (cn 5000) w31] 5)
(.cond s31 (.seq (.region [qMov (cn 8) w2] 1)
.ret)
.skip)))
(.region [qMov s5 w25,
qBin bAdd .add s25 (cn 1) w26,
qMov s26 w5] 3))))))
(.seq (.region [qMov (cn 0) w2] 1)
.ret)))))),false⟩
def q161:QFn:=⟨2,[.t s4],
(.seq (.region [seqO (r_box s1 0 3) w3,
qMov cF w4] 2)
(.seq (.seq (.region [qFad 0 s3 w7,
qLd s7 w8,
seqO (r_callF 220 [s8] 0 9) w9,
seqO (r_un .not s9 0 10) w10,
qMov s10 w11,
gdO s11 false w12 (qFad 3 s3 w12),
gdO s11 false w13 (qLd s12 w13),
gdO s11 false w14 (seqO (r_callF 221 [s13,(cn 16)] 0 14) w14),
gdO s11 false w15 (seqO (r_un .not s14 0 15) w15),
qPick s11 cT s15 w16,
qMov s16 w17,
gdO s17 false w18 (qFad 1 s3 w18),
gdO s17 false w19 (qLd s18 w19),
gdO s17 false w20 (qBin bLss .lss s19 (cn 0) w20),
qPick s17 cT s20 w21,
qMov s21 w22,
gdO s22 false w23 (qFad 1 s3 w23),
gdO s22 false w24 (qLd s23 w24),
gdO s22 false w25 (qFad 3 s3 w25),
gdO s22 false w26 (qLd s25 w26),
gdO s22 false w27 (seqO (r_len s26 0 27) w27),
gdO s22 false w28 (qBin bGtr .gtr s24 s27 w28),
qPick s22 cT s28 w29,
qMov s29 w30,
gdO s30 false w31 (qFad 2 s3 w31),
gdO s30 false w32 (qLd s31 w32),
gdO s30 false w33 (qBin bLss .lss s32 (cm 0) w33),
qPick s30 cT s33 w34,
qMov s34 w35,
gdO s35 false w36 (qFad 2 s3 w36),
gdO s35 false w37 (qLd s36 w37),
gdO s35 false w38 (qMov s0 w38),
gdO s35 false w39 (seqO (r_len s38 0 39) w39),
gdO s35 false w40 (qBin bGeq .geq s37 s39 w40),
qPick s35 cT s40 w41,
qMov s41 w42,
gdO s42 false w43 (qFad 4 s3 w43),
gdO s42 false w44 (qLd s43 w44),
gdO s42 false w45 (seqO (r_len s44 0 45) w45),
gdO s42 false w46 (qBin bLss .lss s45 (cn 1) w46),
qPick s42 cT s46 w47,
qMov s47 w48,
gdO s48 false w49 (qFad 4 s3 w49),
gdO s48 false w50 (qLd s49 w50),
gdO s48 false w51 (seqO (r_len s50 0 51) w51),
gdO s48 false w52 (qBin bGtr .gtr s51 (cn 200) w52),
qPick s48 cT s52 w53] 47)
(.cond s53 (.seq (.region [qMov cF w4] 1)
.ret)
.skip))
(.seq (.seq (.region [qMov (cn 0) w5] 1)
(.block 0 (.loop (.seq (.seq (.region [qMov s5 w54,
qFad 3 s3 w55,
qLd s55 w56,
seqO (r_len s56 0 57) w57,
qBin bLss .lss s54 s57 w58] 5)
(.cond s58 .skip
(.exit 0)))
(.seq (.block 1 (.seq (.region [qFad 3 s3 w61,
qLd s61 w62,
qMov s5 w63,
seqO (r_indexAddr 2 s62 s63 0 64) w64,
qFad 1 s64 w65,
qLd s65 w66,
qBin bLss .lss s66 (cn 0) w67,
qMov s67 w68,
gdO s68 false w69 (qFad 3 s3 w69),
gdO s68 false w70 (qLd s69 w70),
gdO s68 false w71 (qMov s5 w71),
gdO s68 false w72 (seqO (r_indexAddr 2 s70 s71 0 72) w72),
gdO s68 false w73 (qFad 1 s72 w73),
gdO s68 false w74 (qLd s73 w74),
gdO s68 false w75 (qMov s0 w75),
gdO s68 false w76 (seqO (r_len s75 0 76) w76),
gdO s68 false w77 (qBin bGeq .geq s74 s76 w77),
qPick s68 cT s77 w78] 18)
(.cond s78 (.seq (.region [qMov cF w4] 1)
.ret)
.skip)))
(.region [qMov s5 w59,
qBin bAdd .add s59 (cn 1) w60,
qMov s60 w5] 3))))))
(.seq (.seq (.region [qMov (cn 0) w6] 1)
(.block 2 (.loop (.seq (.seq (.region [qMov s6 w79,
qFad 4 s3 w80,
qLd s80 w81,
seqO (r_len s81 0 82) w82,
qBin bLss .lss s79 s82 w83] 5)
(.cond s83 .skip
(.exit 2)))
(.seq (.block 3 (.seq (.region [qFad 4 s3 w86,
qLd s86 w87,
qMov s6 w88,
seqO (r_indexAddr 4 s87 s88 0 89) w89,
seqO (r_load 4 true s89 0 90) w90,
seqO (r_callF 169 [s90] 0 91) w91,
qBin bNeq .neq s91 (cn 0) w92] 7)
(.cond s92 (.seq (.region [qMov cF w4] 1)
.ret)
.skip)))
(.region [qMov s6 w84,
qBin bAdd .add s84 (cn 1) w85,
qMov s85 w6] 3))))))
(.seq (.region [qFad 5 s3 w93,
qLd s93 w94,
qFad 4 s3 w95,
qLd s95 w96,
seqO (r_len s96 0 97) w97,
seqO (r_callF 222 [s94,s97] 0 98) w98,
qMov s98 w99,
gdO s99 true w100 (qFad 6 s3 w100),
gdO s99 true w101 (qLd s100 w101),
gdO s99 true w102 (qFad 4 s3 w102),
gdO s99 true w103 (qLd s102 w103),
gdO s99 true w104 (seqO (r_len s103 0 104) w104),
gdO s99 true w105 (seqO (r_callF 222 [s101,s104] 0 105) w105),
qPick s99 s105 cF w106,
qMov s106 w4] 15)
.ret))))),false⟩
def q162:QFn:=⟨1,[.t s2],
(.seq (.region [seqO (r_mov (cK oF) 65540 2) w2] 1)
(.seq (.region [qMov s0 w3,
seqO (r_conv .u64 s3 0 4) w4,
seqO (r_call 165 [s4] 65537 5) w5,
seqO (r_mov s5 65540 2) w2] 4)
.ret)),false⟩
def q163:QFn:=⟨1,[.t s2],
(.seq (.region [qMov (cK oF) w2] 1)
(.seq (.region [qMov s0 w5,
seqO (r_len s5 0 6) w6,
seqO (r_call 162 [s6] 65537 7) w7,
qMov s7 w3] 4)
(.seq (.seq (.region [qMov (cn 0) w4] 1)
(.block 0 (.loop (.seq (.seq (.region [qMov s4 w8,
qMov s0 w9,
seqO (r_len s9 0 10) w10,
qBin bLss .lss s8 s10 w11] 4)
(.cond s11 .skip
(.exit 0)))
(.seq (.block 1 (.draw [⟨(r_mov s3 0 14),w14,0⟩,
⟨(r_mov s0 0 15),w15,0⟩,
⟨(r_mov s4 0 16),w16,0⟩,
⟨(r_indexAddr 2 s15 s16 0 17),w17,6⟩,
⟨(r_fieldAddr 0 s17 0 18),w18,14⟩,
⟨(r_load 1 false s18 0 19),w19,30⟩,
⟨(r_call 164 [s19] 0 20),w20,62⟩,
⟨(r_append 1 1 s14 s20 0 21),w21,127⟩,
⟨(r_mov s0 0 22),w22,0⟩,
⟨(r_mov s4 0 23),w23,0⟩,
⟨(r_indexAddr 2 s22 s23 0 24),w24,768⟩,
⟨(r_fieldAddr 1 s24 0 25),w25,1792⟩,
⟨(r_load 1 false s25 0 26),w26,3840⟩,
⟨(r_call 162 [s26] 0 27),w27,8191⟩,
⟨(r_append 1 1 s21 s27 0 28),w28,16383⟩,
⟨(r_mov s28 0 3),w3,32767⟩] 16))
(.region [qMov s4 w12,
qBin bAdd .add s12 (cn 1) w13,
qMov s13 w4] 3))))))
(.seq (.region [qMov s3 w29,
qMov s29 w2] 2)
.ret)))),false⟩
def q164:QFn:=⟨1,[.t s2],
(.seq (.region [qMov (cK oF) w2] 1)
(.seq (.region [qMov s0 w3,
seqO (r_lenS s3 0 4) w4,
seqO (r_conv .u64 s4 0 5) w5,
seqO (r_call 165 [s5] 65537 6) w6,
qMov s0 w7,
seqO (r_append 1 1 s6 s7 0 8) w8,
qMov s8 w2] 7)
.ret)),false⟩
def q165:QFn:=⟨1,[.t s2],
(.seq (.region [seqO (r_mov (cK oF) 65540 2) w2] 1)
(.seq (.region [seqO (r_mov (cK oF) 65540 3) w3] 1)
(.seq (.block 0 (.loop (.seq (.seq (.region [qMov s0 w4,
qBin bGeq .geq s4 (cu 128) w5] 2)
(.cond s5 .skip
(.exit 0)))
(.block 1 (.seq (.region [qMov s3 w6,
qMov s0 w7,
qBin (bGen .rem) .rem s7 (cu 128) w8,
seqO (r_conv .u8 s8 0 9) w9,
qBin bAdd .add s9 (cb 128) w10,
seqO (r_buildSlice 1 1 [db] [(0,s10)] 0 11) w11,
seqO (r_append 1 1 s6 s11 1 12) w12,
seqO (r_mov s12 65540 3) w3] 8)
(.region [qMov s0 w13,
qBin (bGen .quo) .quo s13 (cu 128) w14,
qMov s14 w0] 3))))))
(.seq (.region [qMov s3 w15,
qMov s0 w16,
seqO (r_conv .u8 s16 0 17) w17,
seqO (r_buildSlice 1 1 [db] [(0,s17)] 0 18) w18,
seqO (r_append 1 1 s15 s18 1 19) w19,
seqO (r_mov s19 65540 2) w2] 6)
.ret)))),false⟩
def q166:QFn:=⟨1,[.t s2],
(.seq (.region [qMov (cu 0) w2] 1)
(.seq (.seq (.region [qMov s0 w3,
qBin bGeq .geq s3 (cn 0) w4] 2)
(.cond s4 (.seq (.region [qMov s0 w5,
seqO (r_conv .u64 s5 0 6) w6,
qBin (bGen .mul) .mul s6 (cu 2) w7,
qMov s7 w2] 4)
.ret)
.skip))
(.seq (.region [qMov s0 w8,
qBin bAdd .add s8 (cn 1) w9,
seqO (r_un .neg s9 0 10) w10,
seqO (r_conv .u64 s10 0 11) w11,
qBin (bGen .mul) .mul s11 (cu 2) w12,
qBin bAdd .add s12 (cu 1) w13,
qMov s13 w2] 7)
.ret))),false⟩
def q167:QFn:=⟨1,[.t s2],
(.seq (.region [seqO (r_box s0 0 1) w1,
qMov (cK oF) w2] 2)
(.seq (.region [qFad 0 s1 w7,
qLd s7 w8,
seqO (r_buildSlice 1 1 [db] [(0,s8)] 0 9) w9,
qMov s9 w3] 4)
(.seq (.draw [⟨(r_fieldAddr 0 s1 0 10),w10,0⟩,
⟨(r_load 1 false s10 0 11),w11,1⟩,
⟨(r_callF 177 [s11] 0 12),w12,3⟩,
⟨(r_load 4 true s1 0 13),w13,0⟩,
⟨(r_callF 178 [s13] 0 14),w14,15⟩,
⟨(r_alloc [i0,i0,i0] 0 5),w5,0⟩,
⟨(r_mov s12 0 4),w4,63⟩,
⟨(r_store 3 s5 s14 0 0),wN,127⟩] 8)
(.seq (.seq (.region [qMov (cn 0) w6] 1)
(.block 0 (.loop (.seq (.seq (.region [qMov s6 w15,
qBin bLss .lss s15 (cn 3) w16] 2)
(.cond s16 .skip
(.exit 0)))
(.seq (.block 1 (.seq (.seq (.region [qMov s4 w19,
qMov s6 w20,
seqO (r_indexS s19 s20 0 21) w21,
qBin bEql .eql s21 (cb 45) w22] 4)
(.cond s22 (.exit 1)
.skip))
(.seq (.region [qMov s4 w23,
qMov s6 w24,
seqO (r_indexS s23 s24 0 25) w25,
seqO (r_callF 223 [s25] 0 26) w26] 4)
(.cond s26 (.region [qMov s3 w27,
qMov s6 w28,
seqO (r_indexArr 3 1 s5 s28 0 29) w29,
qLd s29 w30,
seqO (r_callF 166 [s30] 0 31) w31,
seqO (r_call 165 [s31] 0 32) w32,
seqO (r_append 1 1 s27 s32 0 33) w33,
qMov s33 w3] 8)
(.region [qMov s3 w34,
qMov s6 w35,
seqO (r_indexArr 3 1 s5 s35 0 36) w36,
qLd s36 w37,
seqO (r_conv .u64 s37 0 38) w38,
seqO (r_call 165 [s38] 0 39) w39,
seqO (r_append 1 1 s34 s39 0 40) w40,
qMov s40 w3] 8)))))
(.region [qMov s6 w17,
qBin bAdd .add s17 (cn 1) w18,
qMov s18 w6] 3))))))
(.seq (.region [qMov s3 w41,
qMov s41 w2] 2)
.ret))))),false⟩
def q168:QFn:=⟨1,[.t s2],
(.seq (.region [qMov (cK oF) w2] 1)
(.seq (.region [qMov s0 w6,
seqO (r_len s6 0 7) w7,
seqO (r_conv .u64 s7 0 8) w8,
seqO (r_call 165 [s8] 65537 9) w9,
qMov s9 w3] 5)
(.seq (.region [qMov (cn 0) w4] 1)
(.seq (.seq (.region [qMov (cn 0) w5] 1)
(.block 0 (.loop (.seq (.seq (.region [qMov s5 w10,
qMov s0 w11,
seqO (r_len s11 0 12) w12,
qBin bLss .lss s10 s12 w13] 4)
(.cond s13 .skip
(.exit 0)))
(.seq (.block 1 (.seq (.region [qMov s3 w16,
qMov s0 w17,
qMov s5 w18,
seqO (r_indexAddr 2 s17 s18 0 19) w19,
qFad 0 s19 w20,
qLd s20 w21,
qMov s4 w22,
qBin bSub .sub s21 s22 w23,
seqO (r_conv .u64 s23 0 24) w24,
seqO (r_call 165 [s24] 0 25) w25,
seqO (r_append 1 1 s16 s25 0 26) w26,
qMov s26 w3] 12)
(.seq (.region [qMov s3 w27,
qMov s0 w28,
qMov s5 w29,
seqO (r_indexAddr 2 s28 s29 0 30) w30,
qFad 1 s30 w31,
qLd s31 w32,
seqO (r_call 165 [s32] 0 33) w33,
seqO (r_append 1 1 s27 s33 0 34) w34,
qMov s34 w3] 9)
(.region [qMov s0 w35,
qMov s5 w36,
seqO (r_indexAddr 2 s35 s36 0 37) w37,
qFad 0 s37 w38,
qLd s38 w39,
qMov s39 w4] 6))))
(.region [qMov s5 w14,
qBin bAdd .add s14 (cn 1) w15,
qMov s15 w5] 3))))))
(.seq (.region [qMov s3 w40,
qMov s40 w2] 2)
.ret))))),false⟩
def q169:QFn:=⟨1,[.t s2],
(.seq (.region [seqO (r_box s0 0 1) w1,
qMov (cn 0) w2] 2)
(.seq (.draw [⟨(r_fieldAddr 0 s1 0 6),w6,0⟩,
⟨(r_load 1 false s6 0 7),w7,1⟩,
⟨(r_callF 177 [s7] 0 8),w8,3⟩,
⟨(r_load 4 true s1 0 9),w9,0⟩,
⟨(r_callF 178 [s9] 0 10),w10,15⟩,
⟨(r_alloc [i0,i0,i0] 0 4),w4,0⟩,
⟨(r_mov s8 0 3),w3,63⟩,
⟨(r_store 3 s4 s10 0 0),wN,127⟩] 8)
(.seq (.seq (.region [qMov s3 w11,
seqO (r_lenS s11 0 12) w12,
qBin bNeq .neq s12 (cn 3) w13] 3)
(.cond s13 (.seq (.region [qMov (cn 8) w2] 1)
.ret)
.skip))
(.seq (.seq (.region [qMov (cn 0) w5] 1)
(.block 0 (.loop (.seq (.seq (.region [qMov s5 w14,
qBin bLss .lss s14 (cn 3) w15] 2)
(.cond s15 .skip
(.exit 0)))
(.seq (.block 1 (.seq (.draw [⟨(r_mov s3 0 18),w18,0⟩,
⟨(r_mov s5 0 19),w19,0⟩,
⟨(r_indexS s18 s19 0 20),w20,3⟩,
⟨(r_mov s5 0 21),w21,0⟩,
⟨(r_indexArr 3 1 s4 s21 0 22),w22,8⟩,
⟨(r_load 1 false s22 0 23),w23,24⟩,
⟨(r_callF 224 [s20,s23] 0 24),w24,63⟩,
⟨(r_un .not s24 0 25),w25,127⟩] 8)
(.cond s25 (.seq (.region [qMov (cn 8) w2] 1)
.ret)
.skip)))
(.region [qMov s5 w16,
qBin bAdd .add s16 (cn 1) w17,
qMov s17 w5] 3))))))
(.seq (.region [qMov (cn 0) w2] 1)
.ret))))),false⟩
def q170:QFn:=⟨2,[.t s4],
(.seq (.region [qMov (cK oF) w4] 1)
(.seq (.region [qMov s0 w6,
qMov s1 w7,
seqO (r_indexAddr 4 s6 s7 0 8) w8,
seqO (r_load 4 true s8 0 9) w9,
seqO (r_alloc [b0,i0,i0,i0] 0 5) w5,
seqO (r_store 4 s5 s9 0 0) wN] 6)
(.seq (.seq (.region [qFad 0 s5 w10,
qLd s10 w11] 2)
(.block 0 (.seq (.seq (.region [qBin bEql .eql s11 (cb 34) w13,
qMov s13 w12] 2)
(.cond s12 .skip
(.seq (.region [qBin bEql .eql s11 (cb 28) w14,
qMov s14 w12] 2)
(.cond s12 .skip
(.region [qBin bEql .eql s11 (cb 30) w15,
qMov s15 w12] 2)))))
(.cond s12 (.seq (.region [qMov (cK oF) w4] 1)
.ret)
(.seq (.region [qBin bEql .eql s11 (cb 22) w17,
qMov s17 w16] 2)
(.cond s16 (.seq (.region [qFad 1 s5 w18,
qLd s18 w19,
seqO (r_buildSlice 1 1 [di] [(0,s19)] 0 20) w20,
qMov s20 w4] 4)
.ret)
(.seq (.region [qBin bEql .eql s11 (cb 23) w22,
qMov s22 w21] 2)
(.cond s21 (.seq (.seq (.region [qFad 2 s5 w23,
qLd s23 w24,
qMov s1 w25,
qBin bAdd .add s25 (cn 1) w26,
qBin bEql .eql s24 s26 w27] 5)
(.cond s27 (.seq (.region [qMov s1 w28,
qBin bAdd .add s28 (cn 1) w29,
seqO (r_buildSlice 1 1 [di] [(0,s29)] 0 30) w30,
qMov s30 w4] 4)
.ret)
.skip))
(.seq (.region [qMov s1 w31,
qBin bAdd .add s31 (cn 1) w32,
qFad 2 s5 w33,
qLd s33 w34,
seqO (r_mini s32 s34 0 35) w35,
qMov s1 w36,
qBin bAdd .add s36 (cn 1) w37,
qFad 2 s5 w38,
qLd s38 w39,
seqO (r_maxi s37 s39 0 40) w40,
seqO (r_buildSlice 1 2 [di] [(0,s35),(1,s40)] 0 41) w41,
qMov s41 w4] 12)
.ret))
.skip))))))))
(.seq (.region [qMov s1 w42,
qBin bAdd .add s42 (cn 1) w43,
seqO (r_buildSlice 1 1 [di] [(0,s43)] 0 44) w44,
qMov s44 w4] 4)
.ret)))),false⟩
def q171:QFn:=⟨3,[.t s6],
(.seq (.region [seqO (r_box s0 0 3) w3,
seqO (r_box s2 0 5) w5,
qMov cF w6] 3)
(.seq (.region [seqO (r_load 4 true s5 0 13) w13,
seqO (r_call 99 [s13] 0 14) w14,
qMov s14 w12,
seqO (r_extract s12 0 0 15) w15,
seqO (r_extract s12 1 0 16) w16,
qMov s15 w7,
qMov s16 w8] 7)
(.seq (.region [seqO (r_buildSlice 1 0 [di] [] 0 17) w17,
qMov s7 w18,
seqO (r_append 1 8 s17 s18 0 19) w19,
qMov s8 w20,
seqO (r_append 1 8 s19 s20 0 21) w21,
qMov s21 w9] 6)
(.seq (.seq (.region [qMov (cn 0) w10] 1)
(.block 0 (.loop (.seq (.seq (.region [qMov s10 w22,
qMov s9 w23,
seqO (r_len s23 0 24) w24,
qBin bLss .lss s22 s24 w25] 4)
(.cond s25 .skip
(.exit 0)))
(.seq (.block 1 (.seq (.draw [⟨(r_mov s9 0 28),w28,0⟩,
⟨(r_mov s10 0 29),w29,0⟩,
⟨(r_indexAddr 1 s28 s29 0 30),w30,3⟩,
⟨(r_load 1 false s30 0 31),w31,7⟩,
⟨(r_fieldAddr 2 s3 0 32),w32,0⟩,
⟨(r_load 1 false s32 0 33),w33,16⟩,
⟨(r_mov s1 0 34),w34,0⟩,
⟨(r_indexAddr 7 s33 s34 0 35),w35,112⟩,
⟨(r_fieldAddr 3 s35 0 36),w36,240⟩,
⟨(r_load 1 false s36 0 37),w37,496⟩,
⟨(r_len s37 0 38),w38,1008⟩,
⟨(r_bin .geq s31 s38 0 39),w39,2047⟩] 12)
(.cond s39 (.seq (.region [qMov cF w6] 1)
.ret)
.skip)))
(.region [qMov s10 w26,
qBin bAdd .add s26 (cn 1) w27,
qMov s27 w10] 3))))))
(.seq (.region [seqO (r_load 4 true s5 0 40) w40,
seqO (r_callF 225 [s40] 0 41) w41,
qMov s41 w11] 3)
(.seq (.region [qMov s11 w42,
qFad 2 s3 w43,
qLd s43 w44,
seqO (r_len s44 0 45) w45,
qBin bLss .lss s42 s45 w46,
qMov s46 w47,
gdO s47 true w48 (qFad 0 s5 w48),
gdO s47 true w49 (qLd s48 w49),
gdO s47 true w50 (qBin bNeq .neq s49 (cb 2) w50),
gdO s47 true w51 (qMov s50 w51),
gdO s51 false w52 (qFad 2 s5 w52),
gdO s51 false w53 (qLd s52 w53),
gdO s51 false w54 (qFad 1 s3 w54),
gdO s51 false w55 (qLd s54 w55),
gdO s51 false w56 (seqO (r_len s55 0 56) w56),
gdO s51 false w57 (qBin bLss .lss s53 s56 w57),
gdO s47 true w58 (qPick s51 cT s57 w58),
qPick s47 s58 cF w59,
qMov s59 w6] 19)
.ret)))))),false⟩
def q172:QFn:=⟨3,[.t s6],
(.seq (.region [seqO (r_box s0 0 3) w3,
seqO (r_box s2 0 5) w5,
qMov cF w6] 3)
(.seq (.draw [⟨(r_load 3 true s3 0 13),w13,0⟩,
⟨(r_mov s1 0 14),w14,0⟩,
⟨(r_fieldAddr 1 s5 0 15),w15,0⟩,
⟨(r_load 1 false s15 0 16),w16,4⟩,
⟨(r_callF 226 [s13,s14,s16] 0 17),w17,15⟩,
⟨(r_load 3 true s3 0 18),w18,0⟩,
⟨(r_mov s1 0 19),w19,0⟩,
⟨(r_fieldAddr 2 s5 0 20),w20,0⟩,
⟨(r_load 1 false s20 0 21),w21,128⟩,
⟨(r_callF 226 [s18,s19,s21] 0 22),w22,511⟩,
⟨(r_load 3 true s3 0 23),w23,0⟩,
⟨(r_mov s1 0 24),w24,0⟩,
⟨(r_fieldAddr 3 s5 0 25),w25,0⟩,
⟨(r_load 1 false s25 0 26),w26,4096⟩,
⟨(r_callF 226 [s23,s24,s26] 0 27),w27,16383⟩,
⟨(r_mov s17 0 7),w7,32767⟩,
⟨(r_mov s22 0 8),w8,65535⟩,
⟨(r_mov s27 0 9),w9,131071⟩] 18)
(.seq (.draw [⟨(r_load 3 true s3 0 28),w28,0⟩,
⟨(r_mov s7 0 29),w29,0⟩,
⟨(r_callF 227 [s28,s29] 0 30),w30,3⟩,
⟨(r_load 3 true s3 0 31),w31,0⟩,
⟨(r_mov s8 0 32),w32,0⟩,
⟨(r_callF 227 [s31,s32] 0 33),w33,31⟩,
⟨(r_load 3 true s3 0 34),w34,0⟩,
⟨(r_mov s9 0 35),w35,0⟩,
⟨(r_callF 227 [s34,s35] 0 36),w36,255⟩,
⟨(r_mov s30 0 10),w10,511⟩,
⟨(r_mov s33 0 11),w11,1023⟩,
⟨(r_mov s36 0 12),w12,2047⟩] 12)
(.seq (.seq (.region [qFad 0 s5 w37,
qLd s37 w38] 2)
(.block 0 (.seq (.seq (.region [qBin bEql .eql s38 (cb 1) w40,
qMov s40 w39] 2)
(.cond s39 .skip
(.region [qBin bEql .eql s38 (cb 32) w41,
qMov s41 w39] 2)))
(.cond s39 (.seq (.region [qMov s10 w42,
qBin bEql .eql s42 (cb 2) w43,
qMov s43 w6] 3)
.ret)
(.seq (.region [qBin bEql .eql s38 (cb 2) w45,
qMov s45 w44] 2)
(.cond s44 (.seq (.region [qMov s10 w46,
qBin bEql .eql s46 (cb 3) w47,
qMov s47 w6] 3)
.ret)
(.seq (.seq (.region [qBin bEql .eql s38 (cb 3) w49,
qMov s49 w48] 2)
(.cond s48 .skip
(.region [qBin bEql .eql s38 (cb 23) w50,
qMov s50 w48] 2)))
(.cond s48 (.seq (.region [qMov s10 w51,
qBin bEql .eql s51 (cb 1) w52,
qMov s52 w6] 3)
.ret)
(.seq (.region [qBin bEql .eql s38 (cb 5) w54,
qMov s54 w53] 2)
(.cond s53 (.seq (.region [qMov s7 w55,
qMov s8 w56,
qBin bEql .eql s55 s56 w57,
qMov s57 w6] 4)
.ret)
(.seq (.seq (.region [qBin bEql .eql s38 (cb 6) w59,
qMov s59 w58] 2)
(.cond s58 .skip
(.seq (.region [qBin bEql .eql s38 (cb 7) w60,
qMov s60 w58] 2)
(.cond s58 .skip
(.seq (.region [qBin bEql .eql s38 (cb 8) w61,
qMov s61 w58] 2)
(.cond s58 .skip
(.region [qBin bEql .eql s38 (cb 9) w62,
qMov s62 w58] 2)))))))
(.cond s58 (.seq (.region [qMov s10 w63,
qBin bEql .eql s63 (cb 2) w64,
qMov s64 w65,
gdO s65 true w66 (qMov s11 w66),
gdO s65 true w67 (qBin bEql .eql s66 (cb 2) w67),
qPick s65 s67 cF w68,
qMov s68 w69,
gdO s69 true w70 (qMov s12 w70),
gdO s69 true w71 (qBin bEql .eql s70 (cb 2) w71),
qPick s69 s71 cF w72,
qMov s72 w6] 11)
.ret)
(.seq (.region [qBin bEql .eql s38 (cb 10) w74,
qMov s74 w73] 2)
(.cond s73 (.seq (.region [qMov s10 w75,
qBin bEql .eql s75 (cb 1) w76,
qMov s76 w77,
gdO s77 true w78 (qMov s11 w78),
gdO s77 true w79 (qBin bEql .eql s78 (cb 2) w79),
qPick s77 s79 cF w80,
qMov s80 w81,
gdO s81 true w82 (qMov s12 w82),
gdO s81 true w83 (qBin bEql .eql s82 (cb 2) w83),
qPick s81 s83 cF w84,
qMov s84 w6] 11)
.ret)
(.seq (.region [qBin bEql .eql s38 (cb 11) w86,
qMov s86 w85] 2)
(.cond s85 (.seq (.region [qMov s10 w87,
qBin bEql .eql s87 (cb 1) w88,
qMov s88 w89,
gdO s89 true w90 (qMov s8 w90),
gdO s89 true w91 (qMov s9 w91),
gdO s89 true w92 (qBin bEql .eql s90 s91 w92),
qPick s89 s92 cF w93,
qMov s93 w94,
gdO s94 true w95 (qFad 0 s3 w95),
gdO s94 true w96 (qLd s95 w96),
gdO s94 true w97 (qMov s8 w97),
gdO s94 true w98 (seqO (r_indexAddr 4 s96 s97 0 98) w98),
gdO s94 true w99 (seqO (r_load 4 true s98 0 99) w99),
gdO s94 true w100 (seqO (r_callF 228 [s99] 0 100) w100),
qPick s94 s100 cF w101,
qMov s101 w6] 16)
.ret)
(.seq (.region [qBin bEql .eql s38 (cb 12) w103,
qMov s103 w102] 2)
(.cond s102 (.seq (.region [qMov s10 w104,
qBin bEql .eql s104 (cb 1) w105,
qMov s105 w106,
gdO s106 true w107 (qMov s11 w107),
gdO s106 true w108 (qBin bEql .eql s107 (cb 1) w108),
qPick s106 s108 cF w109,
qMov s109 w6] 7)
.ret)
(.seq (.region [qBin bEql .eql s38 (cb 13) w111,
qMov s111 w110] 2)
(.cond s110 (.seq (.region [seqO (r_load 3 true s3 0 112) w112,
qMov s8 w113,
qFad 3 s5 w114,
qLd s114 w115,
seqO (r_callF 229 [s112,s113,s115] 0 116) w116,
qMov s7 w117,
qBin bEql .eql s116 s117 w118,
qMov s118 w6] 8)
.ret)
(.seq (.region [qBin bEql .eql s38 (cb 14) w120,
qMov s120 w119] 2)
(.cond s119 (.seq (.region [seqO (r_load 3 true s3 0 121) w121,
qMov s7 w122,
qFad 2 s5 w123,
qLd s123 w124,
seqO (r_callF 229 [s121,s122,s124] 0 125) w125,
qMov s9 w126,
qBin bEql .eql s125 s126 w127,
qMov s127 w6] 8)
.ret)
(.seq (.region [qBin bEql .eql s38 (cb 15) w129,
qMov s129 w128] 2)
(.cond s128 (.seq (.region [qMov s10 w130,
qBin bEql .eql s130 (cb 4) w131,
qMov s131 w6] 3)
.ret)
(.seq (.region [qBin bEql .eql s38 (cb 16) w133,
qMov s133 w132] 2)
(.cond s132 (.seq (.region [seqO (r_load 3 true s3 0 134) w134,
qMov s8 w135,
seqO (r_callF 230 [s134,s135,(cb 4),(cb 4)] 0 136) w136,
qMov s7 w137,
qBin bEql .eql s136 s137 w138,
qMov s138 w6] 6)
.ret)
(.seq (.region [qBin bEql .eql s38 (cb 17) w140,
qMov s140 w139] 2)
(.cond s139 (.seq (.region [seqO (r_load 3 true s3 0 141) w141,
qMov s7 w142,
seqO (r_callF 230 [s141,s142,(cb 4),(cb 4)] 0 143) w143,
qMov s8 w144,
qBin bEql .eql s143 s144 w145,
qMov s145 w6] 6)
.ret)
(.seq (.region [qBin bEql .eql s38 (cb 18) w147,
qMov s147 w146] 2)
(.cond s146 (.seq (.region [qMov s10 w148,
qBin bEql .eql s148 (cb 7) w149,
qMov s149 w150,
gdO s150 true w151 (qMov s11 w151),
gdO s150 true w152 (qBin bEql .eql s151 (cb 2) w152),
qPick s150 s152 cF w153,
qMov s153 w6] 7)
.ret)
(.seq (.region [qBin bEql .eql s38 (cb 19) w155,
qMov s155 w154] 2)
(.cond s154 (.seq (.region [seqO (r_load 3 true s3 0 156) w156,
qMov s8 w157,
seqO (r_callF 230 [s156,s157,(cb 7),(cb 6)] 0 158) w158,
qMov s7 w159,
qBin bEql .eql s158 s159 w160,
qMov s160 w161,
gdO s161 true w162 (qMov s12 w162),
gdO s161 true w163 (qBin bEql .eql s162 (cb 2) w163),
qPick s161 s163 cF w164,
qMov s164 w6] 10)
.ret)
(.seq (.region [qBin bEql .eql s38 (cb 20) w166,
qMov s166 w165] 2)
(.cond s165 (.seq (.region [seqO (r_load 3 true s3 0 167) w167,
qMov s7 w168,
seqO (r_callF 230 [s167,s168,(cb 7),(cb 6)] 0 169) w169,
qMov s9 w170,
qBin bEql .eql s169 s170 w171,
qMov s171 w172,
gdO s172 true w173 (qMov s11 w173),
gdO s172 true w174 (qBin bEql .eql s173 (cb 2) w174),
qPick s172 s174 cF w175,
qMov s175 w6] 10)
.ret)
(.seq (.region [qBin bEql .eql s38 (cb 21) w177,
qMov s177 w176] 2)
(.cond s176 (.seq (.region [qMov s10 w178,
qBin bEql .eql s178 (cb 2) w179,
qMov s179 w180,
gdO s180 true w181 (qMov s11 w181),
gdO s180 true w182 (qBin bEql .eql s181 (cb 3) w182),
gdO s180 true w183 (qMov s182 w183),
gdO s183 false w184 (qMov s11 w184),
gdO s183 false w185 (qBin bEql .eql s184 (cb 7) w185),
gdO s180 true w186 (qPick s183 cT s185 w186),
gdO s180 true w187 (qMov s186 w187),
gdO s187 false w188 (qMov s11 w188),
gdO s187 false w189 (qBin bEql .eql s188 (cb 6) w189),
gdO s180 true w190 (qPick s187 cT s189 w190),
qPick s180 s190 cF w191,
qMov s191 w6] 15)
.ret)
(.seq (.region [qBin bEql .eql s38 (cb 25) w193,
qMov s193 w192] 2)
(.cond s192 (.seq (.region [qFad 1 s5 w194,
qLd s194 w195,
qBin bEql .eql s195 (cm 0) w196,
qMov s196 w197,
gdO s197 false w198 (qFad 2 s3 w198),
gdO s197 false w199 (qLd s198 w199),
gdO s197 false w200 (qFad 2 s5 w200),
gdO s197 false w201 (qLd s200 w201),
gdO s197 false w202 (seqO (r_indexAddr 7 s199 s201 0 202) w202),
gdO s197 false w203 (qFad 2 s202 w203),
gdO s197 false w204 (qLd s203 w204),
gdO s197 false w205 (qMov s7 w205),
gdO s197 false w206 (qBin bEql .eql s204 s205 w206),
qPick s197 cT s206 w207,
qMov s207 w6] 15)
.ret)
(.seq (.seq (.region [qBin bEql .eql s38 (cb 26) w209,
qMov s209 w208] 2)
(.cond s208 .skip
(.region [qBin bEql .eql s38 (cb 27) w210,
qMov s210 w208] 2)))
(.cond s208 (.seq (.region [seqO (r_load 3 true s3 0 211) w211,
qFad 1 s5 w212,
qLd s212 w213,
seqO (r_callF 231 [s211,s213] 0 214) w214,
qMov s214 w6] 5)
.ret)
(.seq (.region [qBin bEql .eql s38 (cb 28) w216,
qMov s216 w215] 2)
(.cond s215 (.seq (.region [qMov s10 w217,
qBin bEql .eql s217 (cb 2) w218,
qMov s218 w219,
gdO s219 false w220 (qMov s10 w220),
gdO s219 false w221 (qBin bEql .eql s220 (cb 1) w221),
qPick s219 cT s221 w222,
qMov s222 w223,
gdO s223 false w224 (qMov s10 w224),
gdO s223 false w225 (qBin bEql .eql s224 (cb 3) w225),
qPick s223 cT s225 w226,
qMov s226 w6] 11)
.ret)
(.seq (.seq (.region [qBin bEql .eql s38 (cb 29) w228,
qMov s228 w227] 2)
(.cond s227 .skip
(.region [qBin bEql .eql s38 (cb 33) w229,
qMov s229 w227] 2)))
(.cond s227 (.seq (.region [qMov s10 w230,
qBin bEql .eql s230 (cb 1) w231,
qMov s231 w232,
gdO s232 true w233 (qMov s11 w233),
gdO s232 true w234 (qBin bEql .eql s233 (cb 2) w234),
qPick s232 s234 cF w235,
qMov s235 w6] 7)
.ret)
(.seq (.region [qBin bEql .eql s38 (cb 34) w237,
qMov s237 w236] 2)
(.cond s236 (.seq (.region [qFad 1 s5 w238,
qLd s238 w239,
qBin bEql .eql s239 (cm 0) w240,
qMov s240 w241,
gdO s241 false w242 (qFad 2 s3 w242),
gdO s241 false w243 (qLd s242 w243),
gdO s241 false w244 (qMov s1 w244),
gdO s241 false w245 (seqO (r_indexAddr 7 s243 s244 0 245) w245),
gdO s241 false w246 (qFad 2 s245 w246),
gdO s241 false w247 (qLd s246 w247),
gdO s241 false w248 (qMov s7 w248),
gdO s241 false w249 (qBin bEql .eql s247 s248 w249),
qPick s241 cT s249 w250,
qMov s250 w6] 14)
.ret)
.skip))))))))))))))))))))))))))))))))))))))))))))))
(.seq (.region [qMov cT w6] 1)
.ret))))),false⟩
def q173:QFn:=⟨4,[.t s8,.t s9],
(.seq (.region [seqO (r_box s0 0 4) w4,
seqO (r_box s2 0 6) w6,
qMov (cK oF) w8,
qMov cF w9] 4)
(.seq (.region [seqO (r_load 3 true s4 0 15) w15,
qMov s1 w16,
seqO (r_load 4 true s6 0 17) w17,
seqO (r_call 232 [s15,s16,s17] 0 18) w18,
qMov s18 w14,
seqO (r_extract s14 0 0 19) w19,
seqO (r_extract s14 1 0 20) w20,
qMov s19 w10,
qMov s20 w11] 9)
(.seq (.region [qMov s3 w21,
seqO (r_len s21 0 22) w22,
qMov s10 w23,
seqO (r_len s23 0 24) w24,
qBin bSub .sub s22 s24 w25,
qMov s25 w12] 6)
(.seq (.seq (.region [qMov s12 w26,
qBin bLss .lss s26 (cn 0) w27,
qMov s27 w28,
gdO s28 false w29 (qMov s3 w29),
gdO s28 false w30 (qMov s12 w30),
gdO s28 false w31 (seqO (r_slice 1 s29 (some s30) none none 0 31) w31),
gdO s28 false w32 (qMov s10 w32),
gdO s28 false w33 (seqO (r_callF 174 [s31,s32] 0 33) w33),
gdO s28 false w34 (seqO (r_un .not s33 0 34) w34),
qPick s28 cT s34 w35] 10)
(.cond s35 (.seq (.region [qMov (cK oF) w8,
qMov cF w9] 2)
.ret)
.skip))
(.seq (.region [seqO (r_buildSlice 1 0 [di] [] 0 36) w36,
qMov s3 w37,
qMov s12 w38,
seqO (r_slice 1 s37 none (some s38) none 0 39) w39,
seqO (r_append 1 8 s36 s39 0 40) w40,
qMov s40 w13] 6)
(.seq (.seq (.region [qMov s11 w41,
qBin bGeq .geq s41 (cn 0) w42] 2)
(.cond s42 (.region [qMov s13 w43,
qMov s11 w44,
seqO (r_buildSlice 1 1 [di] [(0,s44)] 0 45) w45,
seqO (r_append 1 8 s43 s45 0 46) w46,
qMov s46 w13] 5)
.skip))
(.seq (.region [qMov s13 w47,
seqO (r_load 3 true s4 0 48) w48,
qMov s13 w49,
seqO (r_callF 100 [s48,s49] 0 50) w50,
qBin bLeq .leq s50 (cn 4096) w51,
qMov s47 w8,
qMov s51 w9] 7)
.ret))))))),false⟩
def q174:QFn:=⟨2,[.t s4],
(.seq (.region [qMov cF w4] 1)
(.seq (.seq (.region [qMov s0 w6,
seqO (r_len s6 0 7) w7,
qMov s1 w8,
seqO (r_len s8 0 9) w9,
qBin bNeq .neq s7 s9 w10] 5)
(.cond s10 (.seq (.region [qMov cF w4] 1)
.ret)
.skip))
(.seq (.seq (.region [qMov (cn 0) w5] 1)
(.block 0 (.loop (.seq (.seq (.region [qMov s5 w11,
qMov s0 w12,
seqO (r_len s12 0 13) w13,
qBin bLss .lss s11 s13 w14] 4)
(.cond s14 .skip
(.exit 0)))
(.seq (.block 1 (.seq (.draw [⟨(r_mov s0 0 17),w17,0⟩,
⟨(r_mov s5 0 18),w18,0⟩,
⟨(r_indexAddr 1 s17 s18 0 19),w19,3⟩,
⟨(r_load 1 false s19 0 20),w20,7⟩,
⟨(r_mov s1 0 21),w21,0⟩,
⟨(r_mov s5 0 22),w22,0⟩,
⟨(r_indexAddr 1 s21 s22 0 23),w23,48⟩,
⟨(r_load 1 false s23 0 24),w24,112⟩,
⟨(r_bin .neq s20 s24 0 25),w25,255⟩] 9)
(.cond s25 (.seq (.region [qMov cF w4] 1)
.ret)
.skip)))
(.region [qMov s5 w15,
qBin bAdd .add s15 (cn 1) w16,
qMov s16 w5] 3))))))
(.seq (.region [qMov cT w4] 1)
.ret)))),false⟩
def q175:QFn:=⟨1,[.t s2],
(.seq (.region [qMov (cu 0) w2] 1)
(.seq (.region [qMov s0 w3,
qBin (bGen .shl) .shl (cu 1) s3 w4,
qBin bSub .sub s4 (cu 1) w5,
qMov s5 w2] 4)
.ret)),false⟩
def q176:QFn:=⟨1,[.t s2],
(.seq (.region [seqO (r_box s0 0 1) w1,
qMov (cu 0) w2] 2)
(.seq (.region [seqO (r_load 4 true s1 0 8) w8,
seqO (r_call 99 [s8] 0 9) w9,
qMov s9 w7,
seqO (r_extract s7 0 0 10) w10,
seqO (r_extract s7 1 0 11) w11,
qMov s10 w3,
qMov s11 w4] 7)
(.seq (.region [qMov (cu 0) w5] 1)
(.seq (.seq (.region [qMov (cn 0) w6] 1)
(.block 0 (.loop (.seq (.seq (.region [qMov s6 w12,
qMov s4 w13,
seqO (r_len s13 0 14) w14,
qBin bLss .lss s12 s14 w15] 4)
(.cond s15 .skip
(.exit 0)))
(.seq (.block 1 (.region [qMov s5 w18,
qMov s4 w19,
qMov s6 w20,
seqO (r_indexAddr 1 s19 s20 0 21) w21,
qLd s21 w22,
qBin (bGen .shl) .shl (cu 1) s22 w23,
qBin (bGen .or) .or s18 s23 w24,
qMov s24 w5] 8))
(.region [qMov s6 w16,
qBin bAdd .add s16 (cn 1) w17,
qMov s17 w6] 3))))))
(.seq (.region [qMov s5 w25,
qMov s25 w2] 2)
.ret))))),false⟩
def q177:QFn:=⟨1,[.t s2],
(.seq (.region [qMov (cK (.d (.sc (.string ⟨#[]⟩)))) w2] 1)
(.seq (.seq (.region [qMov s0 w3] 1)
(.block 0 (.seq (.region [qBin bEql .eql s3 (cb 1) w5,
qMov s5 w4] 2)
(.cond s4 (.seq (.region [qMov (cK (.d (.sc (.string ⟨#[119,110,45]⟩)))) w2] 1)
.ret)
(.seq (.region [qBin bEql .eql s3 (cb 2) w7,
qMov s7 w6] 2)
(.cond s6 (.seq (.region [qMov (cK (.d (.sc (.string ⟨#[119,116,45]⟩)))) w2] 1)
.ret)
(.seq (.region [qBin bEql .eql s3 (cb 3) w9,
qMov s9 w8] 2)
(.cond s8 (.seq (.region [qMov (cK (.d (.sc (.string ⟨#[119,98,45]⟩)))) w2] 1)
.ret)
(.seq (.seq (.region [qBin bEql .eql s3 (cb 4) w11,
qMov s11 w10] 2)
(.cond s10 .skip
(.region [qBin bEql .eql s3 (cb 15) w12,
qMov s12 w10] 2)))
(.cond s10 (.seq (.region [qMov (cK (.d (.sc (.string ⟨#[119,45,45]⟩)))) w2] 1)
.ret)
(.seq (.seq (.region [qBin bEql .eql s3 (cb 5) w14,
qMov s14 w13] 2)
(.cond s13 .skip
(.seq (.region [qBin bEql .eql s3 (cb 12) w15,
qMov s15 w13] 2)
(.cond s13 .skip
(.seq (.region [qBin bEql .eql s3 (cb 16) w16,
qMov s16 w13] 2)
(.cond s13 .skip
(.seq (.region [qBin bEql .eql s3 (cb 18) w17,
qMov s17 w13] 2)
(.cond s13 .skip
(.region [qBin bEql .eql s3 (cb 21) w18,
qMov s18 w13] 2)))))))))
(.cond s13 (.seq (.region [qMov (cK (.d (.sc (.string ⟨#[119,114,45]⟩)))) w2] 1)
.ret)
(.seq (.seq (.region [qBin bEql .eql s3 (cb 6) w20,
qMov s20 w19] 2)
(.cond s19 .skip
(.seq (.region [qBin bEql .eql s3 (cb 7) w21,
qMov s21 w19] 2)
(.cond s19 .skip
(.seq (.region [qBin bEql .eql s3 (cb 8) w22,
qMov s22 w19] 2)
(.cond s19 .skip
(.seq (.region [qBin bEql .eql s3 (cb 9) w23,
qMov s23 w19] 2)
(.cond s19 .skip
(.seq (.region [qBin bEql .eql s3 (cb 10) w24,
qMov s24 w19] 2)
(.cond s19 .skip
(.seq (.region [qBin bEql .eql s3 (cb 11) w25,
qMov s25 w19] 2)
(.cond s19 .skip
(.region [qBin bEql .eql s3 (cb 19) w26,
qMov s26 w19] 2)))))))))))))
(.cond s19 (.seq (.region [qMov (cK (.d (.sc (.string ⟨#[119,114,114]⟩)))) w2] 1)
.ret)
(.seq (.region [qBin bEql .eql s3 (cb 13) w28,
qMov s28 w27] 2)
(.cond s27 (.seq (.region [qMov (cK (.d (.sc (.string ⟨#[119,114,102]⟩)))) w2] 1)
.ret)
(.seq (.region [qBin bEql .eql s3 (cb 14) w30,
qMov s30 w29] 2)
(.cond s29 (.seq (.region [qMov (cK (.d (.sc (.string ⟨#[114,102,114]⟩)))) w2] 1)
.ret)
(.seq (.region [qBin bEql .eql s3 (cb 17) w32,
qMov s32 w31] 2)
(.cond s31 (.seq (.region [qMov (cK (.d (.sc (.string ⟨#[114,114,45]⟩)))) w2] 1)
.ret)
(.seq (.region [qBin bEql .eql s3 (cb 20) w34,
qMov s34 w33] 2)
(.cond s33 (.seq (.region [qMov (cK (.d (.sc (.string ⟨#[114,114,114]⟩)))) w2] 1)
.ret)
(.seq (.region [qBin bEql .eql s3 (cb 22) w36,
qMov s36 w35] 2)
(.cond s35 (.seq (.region [qMov (cK (.d (.sc (.string ⟨#[105,45,45]⟩)))) w2] 1)
.ret)
(.seq (.region [qBin bEql .eql s3 (cb 23) w38,
qMov s38 w37] 2)
(.cond s37 (.seq (.region [qMov (cK (.d (.sc (.string ⟨#[114,105,45]⟩)))) w2] 1)
.ret)
(.seq (.seq (.region [qBin bEql .eql s3 (cb 24) w40,
qMov s40 w39] 2)
(.cond s39 .skip
(.seq (.region [qBin bEql .eql s3 (cb 28) w41,
qMov s41 w39] 2)
(.cond s39 .skip
(.region [qBin bEql .eql s3 (cb 32) w42,
qMov s42 w39] 2)))))
(.cond s39 (.seq (.region [qMov (cK (.d (.sc (.string ⟨#[114,45,45]⟩)))) w2] 1)
.ret)
(.seq (.region [qBin bEql .eql s3 (cb 25) w44,
qMov s44 w43] 2)
(.cond s43 (.seq (.region [qMov (cK (.d (.sc (.string ⟨#[103,99,45]⟩)))) w2] 1)
.ret)
(.seq (.seq (.region [qBin bEql .eql s3 (cb 26) w46,
qMov s46 w45] 2)
(.cond s45 .skip
(.region [qBin bEql .eql s3 (cb 27) w47,
qMov s47 w45] 2)))
(.cond s45 (.seq (.region [qMov (cK (.d (.sc (.string ⟨#[99,45,45]⟩)))) w2] 1)
.ret)
(.seq (.region [qBin bEql .eql s3 (cb 29) w49,
qMov s49 w48] 2)
(.cond s48 (.seq (.region [qMov (cK (.d (.sc (.string ⟨#[119,119,45]⟩)))) w2] 1)
.ret)
(.seq (.seq (.region [qBin bEql .eql s3 (cb 30) w51,
qMov s51 w50] 2)
(.cond s50 .skip
(.region [qBin bEql .eql s3 (cb 31) w52,
qMov s52 w50] 2)))
(.cond s50 (.seq (.region [qMov (cK (.d (.sc (.string ⟨#[45,45,45]⟩)))) w2] 1)
.ret)
(.seq (.region [qBin bEql .eql s3 (cb 33) w54,
qMov s54 w53] 2)
(.cond s53 (.seq (.region [qMov (cK (.d (.sc (.string ⟨#[119,114,45]⟩)))) w2] 1)
.ret)
(.seq (.region [qBin bEql .eql s3 (cb 34) w56,
qMov s56 w55] 2)
(.cond s55 (.seq (.region [qMov (cK (.d (.sc (.string ⟨#[101,45,45]⟩)))) w2] 1)
.ret)
.skip))))))))))))))))))))))))))))))))))))))))
(.seq (.region [qMov (cK (.d (.sc (.string ⟨#[]⟩)))) w2] 1)
.ret))),false⟩
def q178:QFn:=⟨1,[.cell s2 3 true],
(.seq (.region [seqO (r_box s0 0 1) w1,
seqO (r_alloc [i0,i0,i0] 0 2) w2] 2)
(.seq (.region [qFad 1 s1 w3,
qLd s3 w4,
qFad 2 s1 w5,
qLd s5 w6,
qFad 3 s1 w7,
qLd s7 w8,
seqO (r_build [i0,i0,i0] [(0,1,s4),(1,1,s6),(2,1,s8)] 0 9) w9,
seqO (r_store 3 s2 s9 0 0) wN] 8)
.ret)),false⟩
def q179:QFn:=⟨1,[.t s2,.t s3,.t s4],
(.seq (.region [seqO (r_box s0 0 1) w1,
qMov (cn 0) w2,
qMov (cn 0) w3,
qMov (cn 0) w4] 4)
(.seq (.seq (.region [seqO (r_load 3 true s1 0 9) w9,
seqO (r_callF 107 [s9] 0 10) w10,
qMov s10 w5] 3)
(.seq (.region [qMov s5 w11,
qBin bNeq .neq s11 (cn 0) w12] 2)
(.cond s12 (.seq (.region [qMov s5 w13,
qMov (cn 0) w2,
qMov (cn 0) w3,
qMov s13 w4] 4)
.ret)
.skip)))
(.seq (.seq (.region [qFad 2 s1 w14,
qLd s14 w15,
seqO (r_len s15 0 16) w16,
qMov (cn 0) w17] 4)
(.block 0 (.loop (.seq (.region [qBin bLss .lss s17 s16 w18] 1)
(.seq (.cond s18 .skip
(.exit 0))
(.seq (.block 1 (.seq (.region [qMov s17 w19,
seqO (r_indexAddr 7 s15 s17 0 20) w20,
seqO (r_load 7 true s20 0 21) w21,
seqO (r_alloc [(.d (.sc (.string ⟨#[]⟩))),i0,i0,oF,oF,oF,oF] 0 7) w7,
qMov s19 w6,
seqO (r_store 7 s7 s21 0 0) wN] 6)
(.seq (.region [seqO (r_load 3 true s1 0 22) w22,
qMov s6 w23,
seqO (r_call 233 [s22,s23] 0 24) w24,
seqO (r_alloc [oF,oF,i0,i0] 0 8) w8,
seqO (r_store 4 s8 s24 0 0) wN] 5)
(.seq (.seq (.region [qFad 3 s8 w25,
qLd s25 w26,
qBin bEql .eql s26 (cn 0) w27,
qMov s27 w28,
gdO s28 true w29 (qFad 0 s8 w29),
gdO s28 true w30 (qLd s29 w30),
gdO s28 true w31 (qFad 5 s7 w31),
gdO s28 true w32 (qLd s31 w32),
gdO s28 true w33 (seqO (r_callF 234 [s30,s32] 0 33) w33),
gdO s28 true w34 (seqO (r_un .not s33 0 34) w34),
gdO s28 true w35 (qMov s34 w35),
gdO s35 false w36 (qFad 1 s8 w36),
gdO s35 false w37 (qLd s36 w37),
gdO s35 false w38 (qFad 6 s7 w38),
gdO s35 false w39 (qLd s38 w39),
gdO s35 false w40 (seqO (r_callF 234 [s37,s39] 0 40) w40),
gdO s35 false w41 (seqO (r_un .not s40 0 41) w41),
gdO s28 true w42 (qPick s35 cT s41 w42),
qPick s28 s42 cF w43] 19)
(.cond s43 (.region [qFad 2 s8 w44,
seqO (r_store 1 s44 (cm 0) 0 0) wN,
qFad 3 s8 w45,
seqO (r_store 1 s45 (cn 32) 0 0) wN] 4)
.skip))
(.seq (.region [qFad 3 s8 w46,
qLd s46 w47,
qBin bNeq .neq s47 (cn 0) w48] 3)
(.cond s48 (.seq (.draw [⟨(r_mov s6 0 49),w49,0⟩,
⟨(r_fieldAddr 2 s8 0 50),w50,0⟩,
⟨(r_load 1 false s50 0 51),w51,2⟩,
⟨(r_fieldAddr 3 s8 0 52),w52,0⟩,
⟨(r_load 1 false s52 0 53),w53,8⟩,
⟨(r_mov s49 0 2),w2,1⟩,
⟨(r_mov s51 0 3),w3,39⟩,
⟨(r_mov s53 0 4),w4,127⟩] 8)
.ret)
.skip))))))
(.region [qBin bAdd .add s17 (cn 1) w54,
qMov s54 w17] 2)))))))
(.seq (.region [qMov (cn 0) w2,
qMov (cn 0) w3,
qMov (cn 0) w4] 3)
.ret)))),false⟩
def q180:QFn:=⟨3,[.t s6],
(.seq (.region [qMov cF w6] 1)
(.seq (.region [qMov s0 w7,
qMov s1 w8,
qBin bGeq .geq s7 s8 w9,
qMov s9 w10,
gdO s10 true w11 (qMov s0 w11),
gdO s10 true w12 (qMov s2 w12),
gdO s10 true w13 (qBin bLeq .leq s11 s12 w13),
qPick s10 s13 cF w14,
qMov s14 w6] 9)
.ret)),false⟩
def q181:QFn:=⟨2,[.t s4],
(.seq (.region [qMov cF w4] 1)
(.seq (.region [qMov s0 w5,
qMov s1 w6,
seqO (r_callF 235 [s5,s6] 0 7) w7,
qBin bGeq .geq s7 (cn 0) w8,
qMov s8 w4] 5)
.ret)),true⟩
def q183:QFn:=⟨2,[.t s4],
(.seq (.region [seqO (r_box s1 0 3) w3,
qMov cF w4] 2)
(.seq (.seq (.region [qFad 0 s3 w6,
qLd s6 w7,
qBin bEql .eql s7 (cb 3) w8] 3)
(.cond s8 (.seq (.draw [⟨(r_load 6 true s3 0 9),w9,0⟩,
⟨(r_mov s0 0 10),w10,0⟩,
⟨(r_callF 236 [s10] 0 11),w11,2⟩,
⟨(r_build [b0,u0,u0,u0,u0,i0] [(0,1,(cb 3)),(2,1,s11)] 0 12),w12,6⟩,
⟨(r_eqA false 6 [(0,1),(1,1),(2,1),(3,1),(4,1),(5,1)] s9 s12 0 13),w13,15⟩,
⟨(r_mov s13 0 4),w4,31⟩] 6)
.ret)
.skip))
(.seq (.draw [⟨(r_fieldAddr 2 s3 0 14),w14,0⟩,
⟨(r_load 1 false s14 0 15),w15,1⟩,
⟨(r_mov s0 0 16),w16,0⟩,
⟨(r_callF 236 [s16] 0 17),w17,4⟩,
⟨(r_bin .sub s15 s17 0 18),w18,15⟩,
⟨(r_mov s18 0 5),w5,31⟩] 6)
(.seq (.seq (.draw [⟨(r_fieldAddr 2 s3 0 19),w19,0⟩,
⟨(r_load 1 false s19 0 20),w20,1⟩,
⟨(r_mov s0 0 21),w21,0⟩,
⟨(r_callF 236 [s21] 0 22),w22,4⟩,
⟨(r_bin .lss s20 s22 0 23),w23,15⟩,
⟨(r_mov s23 0 24),w24,31⟩,
⟨gdR s24 false (r_mov s5 0 25),w25,63⟩,
⟨gdR s24 false (r_bin .lss s25 (cu 24) 0 26),w26,127⟩,
⟨(r_pick s24 cT s26 0 27),w27,255⟩,
⟨(r_mov s27 0 28),w28,511⟩,
⟨gdR s28 false (r_mov s5 0 29),w29,1023⟩,
⟨gdR s28 false (r_bin .gtr s29 (cu 4096) 0 30),w30,2047⟩,
⟨(r_pick s28 cT s30 0 31),w31,4095⟩,
⟨(r_mov s31 0 32),w32,8191⟩,
⟨gdR s32 false (r_mov s5 0 33),w33,16383⟩,
⟨gdR s32 false (r_bin .rem s33 (cu 8) 0 34),w34,32767⟩,
⟨gdR s32 false (r_bin .neq s34 (cu 0) 0 35),w35,65535⟩,
⟨(r_pick s32 cT s35 0 36),w36,131071⟩] 18)
(.cond s36 (.seq (.region [qMov cF w4] 1)
.ret)
.skip))
(.seq (.region [qFad 0 s3 w37,
qLd s37 w38,
qBin bEql .eql s38 (cb 2) w39,
qMov s39 w40,
gdO s40 false w41 (qFad 0 s3 w41),
gdO s40 false w42 (qLd s41 w42),
gdO s40 false w43 (qBin bEql .eql s42 (cb 1) w43),
gdO s40 false w44 (qMov s43 w44),
gdO s44 true w45 (qFad 5 s3 w45),
gdO s44 true w46 (qLd s45 w46),
gdO s44 true w47 (qBin bEql .eql s46 (cn 0) w47),
gdO s40 false w48 (qPick s44 s47 cF w48),
qPick s40 cT s48 w49,
qMov s49 w50,
gdO s50 true w51 (qFad 1 s3 w51),
gdO s50 true w52 (qLd s51 w52),
gdO s50 true w53 (seqO (r_callF 237 [s52] 0 53) w53),
qPick s50 s53 cF w54,
qMov s54 w55,
gdO s55 true w56 (qFad 3 s3 w56),
gdO s55 true w57 (qLd s56 w57),
gdO s55 true w58 (seqO (r_callF 238 [s57] 0 58) w58),
qPick s55 s58 cF w59,
qMov s59 w60,
gdO s60 true w61 (qFad 4 s3 w61),
gdO s60 true w62 (qLd s61 w62),
gdO s60 true w63 (seqO (r_callF 238 [s62] 0 63) w63),
qPick s60 s63 cF w64,
qMov s64 w4] 29)
.ret))))),false⟩
def q184:QFn:=⟨3,[],
(.seq (.region [qLd s0 w3,
qBin bNeq .neq s3 (cn 0) w4] 2)
(.cond s4 (.region [seqO (r_build [u0,oF] [] 0 5) w5,
seqO (r_store 2 s1 s5 0 0) wN,
seqO (r_store 1 s2 (cK oF) 0 0) wN] 3)
.skip)),true⟩
def q185:QFn:=⟨0,[.cell s0 2 true],
(.seq (.region [seqO (r_alloc [u0,oF] 0 0) w0] 1)
(.seq (.region [seqO (r_build [u0,oF] [(0,1,(cu 65536))] 0 1) w1,
seqO (r_store 2 s0 s1 0 0) wN] 2)
.ret)),false⟩
def q186:QFn:=⟨3,[.cell s6 2 true,.t s7,.t s8],
(.seq (.region [seqO (r_box s0 0 3) w3,
seqO (r_alloc [u0,oF] 0 6) w6,
qMov (cu 0) w7,
qMov (cn 0) w8] 4)
(.seq (.region [seqO (r_load 2 true s3 0 13) w13,
qMov s1 w14,
seqO (r_len s14 0 15) w15,
qMov s2 w16,
seqO (r_call 194 [s13,s15,s16] 0 17) w17,
qMov s17 w12,
seqO (r_extract s12 0 0 18) w18,
seqO (r_extract s12 1 0 19) w19,
seqO (r_extract s12 2 0 20) w20,
seqO (r_alloc [u0,oF] 0 9) w9,
seqO (r_store 2 s9 s18 0 0) wN,
qMov s19 w10,
qMov s20 w11] 13)
(.seq (.seq (.region [qMov s11 w21,
qBin bNeq .neq s21 (cn 0) w22] 2)
(.cond s22 (.seq (.region [seqO (r_build [u0,oF] [] 0 23) w23,
qMov s11 w24,
seqO (r_store 2 s6 s23 0 0) wN,
qMov (cu 0) w7,
qMov s24 w8] 5)
.ret)
.skip))
(.seq (.region [seqO (r_load 2 true s9 0 26) w26,
qMov s10 w27,
qMov s1 w28,
seqO (r_call 239 [s26,s27,s28] 0 29) w29,
qMov s29 w25,
seqO (r_extract s25 0 0 30) w30,
seqO (r_extract s25 1 0 31) w31,
seqO (r_store 2 s9 s30 0 0) wN,
qMov s31 w11] 9)
(.seq (.region [seqO (r_load 2 true s9 0 32) w32,
qMov s10 w33,
qMov s11 w34,
seqO (r_store 2 s6 s32 0 0) wN,
qMov s33 w7,
qMov s34 w8] 6)
.ret))))),false⟩
def q187:QFn:=⟨1,[.t s2,.t s3],
(.seq (.region [seqO (r_box s0 0 1) w1,
qMov (cK oF) w2,
qMov (cn 0) w3] 3)
(.seq (.seq (.region [seqO (r_load 3 true s1 0 10) w10,
seqO (r_callF 240 [s10] 0 11) w11,
seqO (r_un .not s11 0 12) w12] 3)
(.cond s12 (.seq (.region [qMov (cK oF) w2,
qMov (cn 8) w3] 2)
.ret)
.skip))
(.seq (.region [seqO (r_alloc [oF] 0 4) w4] 1)
(.seq (.region [qFad 0 s1 w13,
qLd s13 w14,
seqO (r_call 241 [s4,s14] 0 15) w15] 3)
(.seq (.region [qFad 1 s1 w16,
qLd s16 w17,
seqO (r_len s17 0 18) w18,
seqO (r_call 242 [s4,s18] 0 19) w19] 4)
(.seq (.seq (.region [qFad 1 s1 w20,
qLd s20 w21,
seqO (r_len s21 0 22) w22,
qMov (cn 0) w23] 4)
(.block 0 (.loop (.seq (.region [qBin bLss .lss s23 s22 w24] 1)
(.seq (.cond s24 .skip
(.exit 0))
(.seq (.block 1 (.seq (.region [seqO (r_indexAddr 1 s21 s23 0 25) w25,
qLd s25 w26,
qMov s26 w6] 3)
(.region [qMov s6 w27,
seqO (r_call 243 [s4,s27] 0 28) w28] 2)))
(.region [qBin bAdd .add s23 (cn 1) w29,
qMov s29 w23] 2)))))))
(.seq (.region [qFad 2 s1 w30,
qLd s30 w31,
seqO (r_len s31 0 32) w32,
seqO (r_call 242 [s4,s32] 0 33) w33] 4)
(.seq (.seq (.region [qFad 2 s1 w34,
qLd s34 w35,
seqO (r_len s35 0 36) w36,
qMov (cn 0) w37] 4)
(.block 2 (.loop (.seq (.region [qBin bLss .lss s37 s36 w38] 1)
(.seq (.cond s38 .skip
(.exit 2))
(.seq (.block 3 (.seq (.region [seqO (r_indexAddr 7 s35 s37 0 39) w39,
seqO (r_load 7 true s39 0 40) w40,
seqO (r_alloc [(.d (.sc (.string ⟨#[]⟩))),i0,i0,oF,oF,oF,oF] 0 8) w8,
seqO (r_store 7 s8 s40 0 0) wN] 4)
(.seq (.region [seqO (r_load 7 true s8 0 41) w41,
seqO (r_call 244 [s4,s41] 0 42) w42,
qMov s42 w9] 3)
(.seq (.region [qMov s9 w43,
qBin bNeq .neq s43 (cn 0) w44] 2)
(.cond s44 (.seq (.region [qMov s9 w45,
qMov (cK oF) w2,
qMov s45 w3] 3)
.ret)
.skip)))))
(.region [qBin bAdd .add s37 (cn 1) w46,
qMov s46 w37] 2)))))))
(.seq (.seq (.region [qFad 0 s4 w47,
qLd s47 w48,
seqO (r_len s48 0 49) w49,
qBin bGtr .gtr s49 (cn 20000) w50] 4)
(.cond s50 (.seq (.region [qMov (cK oF) w2,
qMov (cn 4) w3] 2)
.ret)
.skip))
(.seq (.region [qFad 0 s4 w51,
qLd s51 w52,
qMov s52 w2,
qMov (cn 0) w3] 4)
.ret)))))))))),false⟩
def q188:QFn:=⟨2,[.t s4,.t s5],
(.seq (.region [seqO (r_box s0 0 2) w2,
qMov (cK oF) w4,
qMov (cn 0) w5] 3)
(.seq (.draw [⟨(r_fieldAddr 0 s2 0 11),w11,0⟩,
⟨(r_load 1 false s11 0 12),w12,1⟩,
⟨(r_fieldAddr 2 s2 0 13),w13,0⟩,
⟨(r_load 1 false s13 0 14),w14,4⟩,
⟨(r_mov s1 0 15),w15,0⟩,
⟨(r_indexAddr 7 s14 s15 0 16),w16,28⟩,
⟨(r_fieldAddr 3 s16 0 17),w17,60⟩,
⟨(r_load 1 false s17 0 18),w18,124⟩,
⟨(r_call 111 [s12,s18] 0 19),w19,255⟩,
⟨(r_mov s19 0 10),w10,511⟩,
⟨(r_extract s10 0 0 20),w20,1023⟩,
⟨(r_extract s10 1 0 21),w21,1023⟩,
⟨(r_extract s10 2 0 22),w22,1023⟩,
⟨(r_extract s10 3 0 23),w23,1023⟩,
⟨(r_mov s20 0 6),w6,2047⟩,
⟨(r_mov s21 0 7),w7,20479⟩,
⟨(r_mov s22 0 8),w8,57343⟩,
⟨(r_mov s23 0 9),w9,131071⟩] 18)
(.seq (.region [qMov s7 w25,
seqO (r_callF 124 [s25] 0 26) w26,
qMov s26 w24,
seqO (r_extract s24 0 0 27) w27,
seqO (r_extract s24 1 0 28) w28,
qMov s27 w7] 6)
(.seq (.region [qMov s6 w29,
qMov s7 w30,
qMov s29 w4,
qMov s30 w5] 4)
.ret)))),false⟩
def q189:QFn:=⟨3,[.t s6,.t s7],
(.seq (.region [seqO (r_box s0 0 3) w3,
seqO (r_box s2 0 5) w5,
qMov (cu 0) w6,
qMov (cn 0) w7] 4)
(.seq (.seq (.region [qLd s3 w10,
qMov s1 w11,
seqO (r_callF 245 [s10,s11] 0 12) w12,
qMov s12 w8] 4)
(.seq (.region [qMov s8 w13,
qBin bNeq .neq s13 (cn 0) w14] 2)
(.cond s14 (.seq (.region [qMov s8 w15,
qMov (cu 0) w6,
qMov s15 w7] 3)
.ret)
.skip)))
(.seq (.seq (.region [qLd s5 w16,
qBin bLss .lss s16 (cn 0) w17,
qMov s17 w18,
gdO s18 false w19 (qLd s5 w19),
gdO s18 false w20 (qMov s1 w20),
gdO s18 false w21 (qBin bGeq .geq s19 s20 w21),
qPick s18 cT s21 w22] 7)
(.cond s22 (.seq (.region [qMov (cu 0) w6,
qMov (cn 2) w7] 2)
.ret)
.skip))
(.seq (.region [qLd s3 w23,
seqO (r_len s23 0 24) w24,
seqO (r_makeFunc 247 [s3,s5] 0 25) w25,
seqO (r_callF 246 [s24,s25] 0 26) w26,
qMov s26 w9] 5)
(.seq (.region [qLd s3 w27,
qMov s9 w28,
qBin bSub .sub s28 (cn 1) w29,
seqO (r_indexAddr 2 s27 s29 0 30) w30,
qFad 1 s30 w31,
qLd s31 w32,
qMov s32 w6,
qMov (cn 0) w7] 8)
.ret))))),false⟩
def q190:QFn:=⟨2,[.t s4],
(.seq (.region [qMov cF w4] 1)
(.seq (.region [qMov s0 w5,
qBin bLeq .leq s5 (cu 3) w6,
qMov s6 w7,
gdO s7 true w8 (qMov s1 w8),
gdO s7 true w9 (qBin bNeq .neq s8 (cu 0) w9),
gdO s7 true w10 (qMov s0 w10),
gdO s7 true w11 (qBin bGeq .geq s10 (cu 2) w11),
gdO s7 true w12 (seqO (r_eqb false s9 s11 0 12) w12),
qPick s7 s12 cF w13,
qMov s13 w4] 10)
.ret)),false⟩
def q191:QFn:=⟨1,[.t s2],
(.seq (.region [qMov (cn 0) w2] 1)
(.seq (.seq (.region [qMov s0 w6,
seqO (r_len s6 0 7) w7,
qBin bGtr .gtr s7 (cn 32) w8] 3)
(.cond s8 (.seq (.region [qMov (cn 8) w2] 1)
.ret)
.skip))
(.seq (.seq (.region [qMov s0 w9,
seqO (r_len s9 0 10) w10,
qMov (cn 0) w11] 3)
(.block 0 (.loop (.seq (.region [qBin bLss .lss s11 s10 w12] 1)
(.seq (.cond s12 .skip
(.exit 0))
(.seq (.block 1 (.seq (.region [qMov s11 w13,
qMov s13 w3] 2)
(.seq (.region [qMov s0 w14,
qMov s3 w15,
seqO (r_callF 248 [s14,s15] 0 16) w16,
seqO (r_un .not s16 0 17) w17] 4)
(.cond s17 (.seq (.region [qMov (cn 8) w2] 1)
.ret)
.skip))))
(.region [qBin bAdd .add s11 (cn 1) w18,
qMov s18 w11] 2)))))))
(.seq (.seq (.region [qMov s0 w19,
seqO (r_call 249 [s19] 0 20) w20,
seqO (r_len s20 0 21) w21,
qMov (cn 0) w22] 4)
(.block 2 (.loop (.seq (.region [qBin bLss .lss s22 s21 w23] 1)
(.seq (.cond s23 .skip
(.exit 2))
(.seq (.block 3 (.seq (.region [seqO (r_indexAddr 1 s20 s22 0 24) w24,
qLd s24 w25,
qMov s25 w5] 3)
(.seq (.region [qMov s5 w26,
qBin bGtr .gtr s26 (cn 5000) w27] 2)
(.cond s27 (.seq (.region [qMov (cn 8) w2] 1)
.ret)
.skip))))
(.region [qBin bAdd .add s22 (cn 1) w28,
qMov s28 w22] 2)))))))
(.seq (.region [qMov (cn 0) w2] 1)
.ret))))),false⟩
def q192:QFn:=⟨1,[.t s2],
(.seq (.region [qMov (cK oF) w2] 1)
(.seq (.region [qMov s0 w7,
seqO (r_len s7 0 8) w8,
seqO (r_makeSlice 2 16 [di,di] s8 s8 1 9) w9,
qMov s9 w3] 4)
(.seq (.seq (.region [qMov s0 w10,
seqO (r_len s10 0 11) w11,
qMov (cn 0) w12] 3)
(.block 0 (.loop (.seq (.region [qBin bLss .lss s12 s11 w13] 1)
(.seq (.cond s13 .skip
(.exit 0))
(.seq (.block 1 (.seq (.region [qMov s12 w14,
seqO (r_indexAddr 4 s10 s12 0 15) w15,
seqO (r_load 4 true s15 0 16) w16,
seqO (r_alloc [b0,i0,i0,oF] 0 5) w5,
qMov s14 w4,
seqO (r_store 4 s5 s16 0 0) wN] 6)
(.seq (.region [qFad 0 s5 w17,
qLd s17 w18] 2)
(.block 2 (.seq (.region [qBin bEql .eql s18 (cb 1) w20,
qMov s20 w19] 2)
(.cond s19 (.region [qMov s3 w21,
qMov s4 w22,
seqO (r_build [i0,i0] [(0,1,(cn 1)),(1,1,(cn 1))] 0 23) w23,
seqO (r_indexAddr 2 s21 s22 0 24) w24,
seqO (r_store 2 s24 s23 0 0) wN] 5)
(.seq (.seq (.region [qBin bEql .eql s18 (cb 2) w26,
qMov s26 w25] 2)
(.cond s25 .skip
(.region [qBin bEql .eql s18 (cb 4) w27,
qMov s27 w25] 2)))
(.cond s25 (.region [qMov s3 w28,
qMov s4 w29,
seqO (r_build [i0,i0] [(0,1,(cn 8)),(1,1,(cn 8))] 0 30) w30,
seqO (r_indexAddr 2 s28 s29 0 31) w31,
seqO (r_store 2 s31 s30 0 0) wN] 5)
(.seq (.region [qBin bEql .eql s18 (cb 3) w33,
qMov s33 w32] 2)
(.cond s32 (.region [qMov s3 w34,
qMov s4 w35,
seqO (r_build [i0,i0] [(0,1,(cn 16)),(1,1,(cn 8))] 0 36) w36,
seqO (r_indexAddr 2 s34 s35 0 37) w37,
seqO (r_store 2 s37 s36 0 0) wN] 5)
(.seq (.region [qBin bEql .eql s18 (cb 7) w39,
qMov s39 w38] 2)
(.cond s38 (.region [qMov s3 w40,
qMov s4 w41,
seqO (r_build [i0,i0] [(0,1,(cn 24)),(1,1,(cn 8))] 0 42) w42,
seqO (r_indexAddr 2 s40 s41 0 43) w43,
seqO (r_store 2 s43 s42 0 0) wN] 5)
(.seq (.region [qBin bEql .eql s18 (cb 6) w45,
qMov s45 w44] 2)
(.cond s44 (.seq (.region [qMov s3 w46,
qFad 1 s5 w47,
qLd s47 w48,
seqO (r_indexAddr 2 s46 s48 0 49) w49,
seqO (r_load 2 true s49 0 50) w50,
seqO (r_alloc [i0,i0] 0 6) w6,
seqO (r_store 2 s6 s50 0 0) wN] 7)
(.region [qMov s3 w51,
qMov s4 w52,
qFad 2 s5 w53,
qLd s53 w54,
qFad 0 s6 w55,
qLd s55 w56,
qBin (bGen .mul) .mul s54 s56 w57,
seqO (r_mini (cn 1048576) s57 0 58) w58,
qFad 1 s6 w59,
qLd s59 w60,
seqO (r_build [i0,i0] [(0,1,s58),(1,1,s60)] 0 61) w61,
seqO (r_indexAddr 2 s51 s52 0 62) w62,
seqO (r_store 2 s62 s61 0 0) wN] 13))
(.seq (.region [qBin bEql .eql s18 (cb 5) w64,
qMov s64 w63] 2)
(.cond s63 (.region [qMov s3 w66,
qMov s4 w67,
qMov s3 w68,
qFad 3 s5 w69,
qLd s69 w70,
seqO (r_call 193 [s68,s70] 0 71) w71,
qMov s71 w65,
seqO (r_extract s65 0 0 72) w72,
seqO (r_extract s65 1 0 73) w73,
seqO (r_indexAddr 2 s66 s67 0 74) w74,
seqO (r_store 2 s74 s73 0 0) wN] 11)
.skip))))))))))))))))
(.region [qBin bAdd .add s12 (cn 1) w75,
qMov s75 w12] 2)))))))
(.seq (.region [qMov s3 w76,
qMov s76 w2] 2)
.ret)))),false⟩
def q193:QFn:=⟨2,[.t s4,.cell s5 2 true],
(.seq (.region [qMov (cK oF) w4,
seqO (r_alloc [i0,i0] 0 5) w5] 2)
(.seq (.region [qMov s1 w11,
seqO (r_len s11 0 12) w12,
seqO (r_makeSlice 1 8 [di] s12 s12 1 13) w13,
seqO (r_build [i0,i0] [(0,1,(cn 0)),(1,1,(cn 1))] 0 14) w14,
seqO (r_alloc [i0,i0] 0 7) w7,
qMov s13 w6,
seqO (r_store 2 s7 s14 0 0) wN] 7)
(.seq (.seq (.region [qMov s1 w15,
seqO (r_len s15 0 16) w16,
qMov (cn 0) w17] 3)
(.block 0 (.loop (.seq (.region [qBin bLss .lss s17 s16 w18] 1)
(.seq (.cond s18 .skip
(.exit 0))
(.seq (.block 1 (.seq (.region [qMov s17 w19,
seqO (r_indexAddr 2 s15 s17 0 20) w20,
seqO (r_load 2 true s20 0 21) w21,
seqO (r_alloc [(.d (.sc (.string ⟨#[]⟩))),i0] 0 9) w9,
qMov s19 w8,
seqO (r_store 2 s9 s21 0 0) wN] 6)
(.seq (.region [qMov s0 w22,
qFad 1 s9 w23,
qLd s23 w24,
seqO (r_indexAddr 2 s22 s24 0 25) w25,
seqO (r_load 2 true s25 0 26) w26,
seqO (r_alloc [i0,i0] 0 10) w10,
seqO (r_store 2 s10 s26 0 0) wN] 7)
(.seq (.region [qMov s6 w27,
qMov s8 w28,
qFad 0 s7 w29,
qLd s29 w30,
qFad 1 s10 w31,
qLd s31 w32,
qBin bAdd .add s30 s32 w33,
qBin bSub .sub s33 (cn 1) w34,
qFad 1 s10 w35,
qLd s35 w36,
qBin bSub .sub s36 (cn 1) w37,
qBin (bGen .andNot) .andNot s34 s37 w38,
seqO (r_indexAddr 1 s27 s28 0 39) w39,
seqO (r_store 1 s39 s38 0 0) wN] 14)
(.draw [⟨(r_mov s6 0 40),w40,0⟩,
⟨(r_mov s8 0 41),w41,0⟩,
⟨(r_indexAddr 1 s40 s41 0 42),w42,3⟩,
⟨(r_load 1 false s42 0 43),w43,7⟩,
⟨(r_fieldAddr 0 s10 0 44),w44,0⟩,
⟨(r_load 1 false s44 0 45),w45,16⟩,
⟨(r_bin .add s43 s45 0 46),w46,63⟩,
⟨(r_mini (cn 1048576) s46 0 47),w47,127⟩,
⟨(r_fieldAddr 1 s7 0 48),w48,0⟩,
⟨(r_load 1 false s48 0 49),w49,256⟩,
⟨(r_fieldAddr 1 s10 0 50),w50,0⟩,
⟨(r_load 1 false s50 0 51),w51,1024⟩,
⟨(r_maxi s49 s51 0 52),w52,3840⟩,
⟨(r_build [i0,i0] [(0,1,s47),(1,1,s52)] 0 53),w53,8191⟩,
⟨(r_store 2 s7 s53 0 0),wN,16383⟩] 15)))))
(.region [qBin bAdd .add s17 (cn 1) w54,
qMov s54 w17] 2)))))))
(.seq (.region [qFad 0 s7 w55,
qLd s55 w56,
qFad 1 s7 w57,
qLd s57 w58,
qBin bAdd .add s56 s58 w59,
qBin bSub .sub s59 (cn 1) w60,
qFad 1 s7 w61,
qLd s61 w62,
qBin bSub .sub s62 (cn 1) w63,
qBin (bGen .andNot) .andNot s60 s63 w64,
qFad 0 s7 w65,
seqO (r_store 1 s65 s64 0 0) wN] 12)
(.seq (.draw [⟨(r_mov s6 0 66),w66,0⟩,
⟨(r_load 2 true s7 0 67),w67,0⟩,
⟨(r_mov s66 0 4),w4,1⟩,
⟨(r_store 2 s5 s67 0 0),wN,7⟩] 4)
.ret))))),false⟩
def q194:QFn:=⟨3,[.cell s6 2 true,.t s7,.t s8],
(.seq (.region [seqO (r_box s0 0 3) w3,
seqO (r_alloc [u0,oF] 0 6) w6,
qMov (cu 0) w7,
qMov (cn 0) w8] 4)
(.seq (.region [seqO (r_load 2 true s3 0 13) w13,
qMov s2 w14,
seqO (r_callF 76 [s13,s14] 0 15) w15,
qMov s15 w12,
seqO (r_extract s12 0 0 16) w16,
seqO (r_extract s12 1 0 17) w17,
qMov s16 w9,
qMov s17 w10] 8)
(.seq (.seq (.region [qMov s10 w18,
qBin bNeq .neq s18 (cn 0) w19] 2)
(.cond s19 (.seq (.region [seqO (r_build [u0,oF] [] 0 20) w20,
qMov s10 w21,
seqO (r_store 2 s6 s20 0 0) wN,
qMov (cu 0) w7,
qMov s21 w8] 5)
.ret)
.skip))
(.seq (.seq (.region [qMov s1 w22,
qBin bLss .lss s22 (cn 0) w23,
qMov s23 w24,
gdO s24 false w25 (qMov s1 w25),
gdO s24 false w26 (qBin bGtr .gtr s25 (cn 4096) w26),
qPick s24 cT s26 w27] 6)
(.cond s27 (.seq (.region [seqO (r_build [u0,oF] [] 0 28) w28,
seqO (r_store 2 s6 s28 0 0) wN,
qMov (cu 0) w7,
qMov (cn 2) w8] 4)
.ret)
.skip))
(.seq (.seq (.region [qMov s1 w29,
seqO (r_callF 250 [s29] 0 30) w30,
qMov s9 w31,
qBin bGtr .gtr s30 s31 w32] 4)
(.cond s32 (.seq (.region [seqO (r_build [u0,oF] [] 0 33) w33,
seqO (r_store 2 s6 s33 0 0) wN,
qMov (cu 0) w7,
qMov (cn 18) w8] 4)
.ret)
.skip))
(.seq (.draw [⟨(r_load 2 true s3 0 35),w35,0⟩,
⟨(r_fieldAddr 1 s3 0 36),w36,0⟩,
⟨(r_load 1 false s36 0 37),w37,2⟩,
⟨(r_len s37 0 38),w38,6⟩,
⟨(r_mov s1 0 39),w39,0⟩,
⟨(r_callF 250 [s39] 0 40),w40,16⟩,
⟨(r_bin .add s38 s40 0 41),w41,62⟩,
⟨(r_call 251 [s35,s41] 65538 42),w42,127⟩,
⟨(r_mov s42 0 34),w34,255⟩,
⟨(r_extract s34 0 0 43),w43,511⟩,
⟨(r_extract s34 1 0 44),w44,511⟩,
⟨(r_alloc [u0,oF] 0 11),w11,0⟩,
⟨(r_store 2 s11 s43 0 0),wN,3071⟩,
⟨(r_mov s44 0 10),w10,8191⟩] 14)
(.seq (.draw [⟨(r_load 2 true s11 0 45),w45,0⟩,
⟨(r_fieldAddr 0 s3 0 46),w46,0⟩,
⟨(r_load 1 false s46 0 47),w47,2⟩,
⟨(r_fieldAddr 1 s3 0 48),w48,0⟩,
⟨(r_load 1 false s48 0 49),w49,8⟩,
⟨(r_len s49 0 50),w50,24⟩,
⟨(r_conv .u64 s50 0 51),w51,56⟩,
⟨(r_bin .add s47 s51 0 52),w52,126⟩,
⟨(r_mov s10 0 53),w53,0⟩,
⟨(r_store 2 s6 s45 0 0),wN,1⟩,
⟨(r_mov s52 0 7),w7,767⟩,
⟨(r_mov s53 0 8),w8,2047⟩] 12)
.ret))))))),false⟩
def q196:QFn:=⟨2,[.t s4],
(.seq (.region [seqO (r_mov (cK oF) 65540 4) w4] 1)
(.seq (.seq (.region [qMov s1 w5,
qBin bLss .lss s5 (cn 0) w6] 2)
(.cond s6 (.region [seqO (r_bad 0 7) w7,
seqO (r_bad 0 0) wN] 2)
.skip))
(.seq (.seq (.region [qMov s1 w8,
qMov s0 w9,
seqO (r_capF s9 0 10) w10,
qMov s0 w11,
seqO (r_len s11 0 12) w12,
qBin bSub .sub s10 s12 w13,
qBin bSub .sub s8 s13 w14,
qMov s14 w1] 8)
(.seq (.region [qMov s1 w15,
qBin bGtr .gtr s15 (cn 0) w16] 2)
(.cond s16 (.region [qMov s0 w17,
qMov s0 w18,
seqO (r_capF s18 0 19) w19,
seqO (r_slice 1 s17 none (some s19) none 0 20) w20,
qMov s1 w21,
seqO (r_appendZ 1 1 [db] s20 s21 1 22) w22,
qMov s0 w23,
seqO (r_len s23 0 24) w24,
seqO (r_slice 1 s22 none (some s24) none 0 25) w25,
qMov s25 w0] 10)
.skip)))
(.seq (.region [qMov s0 w26,
seqO (r_mov s26 65540 4) w4] 2)
.ret)))),true⟩
def q197:QFn:=⟨2,[.t s4,.t s5],
(.seq (.region [seqO (r_box s0 0 2) w2,
qMov (cK oF) w4,
qMov (cn 0) w5] 3)
(.seq (.seq (.region [seqO (r_load 2 true s2 0 10) w10,
seqO (r_callF 252 [s10] 0 11) w11,
qMov s11 w6] 3)
(.seq (.region [qMov s6 w12,
qBin bNeq .neq s12 (cn 0) w13] 2)
(.cond s13 (.seq (.region [qMov s6 w14,
qMov (cK oF) w4,
qMov s14 w5] 3)
.ret)
.skip)))
(.seq (.region [qMov (cK oF) w7] 1)
(.seq (.block 0 (.loop (.seq (.seq (.region [qMov s1 w15,
qBin bNeq .neq s15 (cu 0) w16] 2)
(.cond s16 .skip
(.exit 0)))
(.block 1 (.seq (.region [seqO (r_load 2 true s2 0 18) w18,
qMov s1 w19,
seqO (r_callF 204 [s18,s19] 0 20) w20,
qMov s20 w17,
seqO (r_extract s17 0 0 21) w21,
seqO (r_extract s17 1 0 22) w22,
seqO (r_alloc [u0,u0,u0,u0,u0,u0,u0] 0 8) w8,
seqO (r_store 7 s8 s21 0 0) wN,
qMov s22 w9] 9)
(.seq (.seq (.region [qMov s9 w23,
qBin bNeq .neq s23 (cn 0) w24] 2)
(.cond s24 (.seq (.region [qMov s9 w25,
qMov (cK oF) w4,
qMov s25 w5] 3)
.ret)
.skip))
(.seq (.seq (.region [qFad 0 s8 w26,
qLd s26 w27,
qMov s1 w28,
qBin bGeq .geq s27 s28 w29] 4)
(.cond s29 (.seq (.region [qMov (cK oF) w4,
qMov (cn 32) w5] 2)
.ret)
.skip))
(.draw [⟨(r_mov s7 0 30),w30,0⟩,
⟨(r_load 7 true s8 0 31),w31,0⟩,
⟨(r_buildSlice 7 1 [du,du,du,du,du,du,du] [(0,s31)] 0 32),w32,2⟩,
⟨(r_append 7 56 s30 s32 0 33),w33,7⟩,
⟨(r_fieldAddr 0 s8 0 34),w34,0⟩,
⟨(r_load 1 false s34 0 35),w35,16⟩,
⟨(r_mov s33 0 7),w7,15⟩,
⟨(r_mov s35 0 1),w1,127⟩] 8))))))))
(.seq (.region [qMov s7 w36,
qMov s36 w4,
qMov (cn 0) w5] 3)
.ret))))),false⟩
def q198:QFn:=⟨1,[.cell s2 2 true],
(.seq (.region [seqO (r_box s0 0 1) w1,
seqO (r_alloc [u0,oF] 0 2) w2] 2)
(.seq (.region [qFad 1 s1 w3,
qLd s3 w4,
seqO (r_clone 1 1 s4 1 5) w5,
qFad 1 s1 w6,
seqO (r_store 1 s6 s5 0 0) wN] 5)
(.seq (.region [seqO (r_load 2 true s1 0 7) w7,
seqO (r_store 2 s2 s7 0 0) wN] 2)
.ret))),false⟩
def q199:QFn:=⟨3,[.cell s6 2 true],
(.seq (.region [seqO (r_box s0 0 3) w3,
seqO (r_box s2 0 5) w5,
seqO (r_alloc [u0,oF] 0 6) w6] 3)
(.seq (.seq (.region [qFad 0 s5 w9,
qLd s9 w10,
qFad 1 s5 w11,
qLd s11 w12,
qFad 2 s5 w13,
qLd s13 w14,
qFad 3 s5 w15,
qLd s15 w16,
qFad 4 s5 w17,
qLd s17 w18,
qFad 5 s5 w19,
qLd s19 w20,
qFad 6 s5 w21,
qLd s21 w22,
seqO (r_build [u0,u0,u0,u0,u0,u0,u0] [(0,1,s10),(1,1,s12),(2,1,s14),(3,1,s16),(4,1,s18),(5,1,s20),(6,1,s22)] 0 23) w23,
qMov (cn 0) w24] 16)
(.block 0 (.loop (.seq (.region [qBin bLss .lss s24 (cn 7) w25] 1)
(.seq (.cond s25 .skip
(.exit 0))
(.seq (.block 1 (.seq (.region [qMov s24 w26,
seqO (r_indexA 7 1 false s23 s24 0 27) w27,
qMov s26 w7,
qMov s27 w8] 4)
(.region [seqO (r_load 2 true s3 0 29) w29,
qMov s1 w30,
qMov s7 w31,
qBin (bGen .mul) .mul (cn 8) s31 w32,
seqO (r_conv .u64 s32 0 33) w33,
qBin bAdd .add s30 s33 w34,
qMov s8 w35,
seqO (r_call 210 [s29,s34,(cn 8),s35] 65538 36) w36,
qMov s36 w28,
seqO (r_extract s28 0 0 37) w37,
seqO (r_extract s28 1 0 38) w38,
seqO (r_store 2 s3 s37 0 0) wN] 12)))
(.region [qBin bAdd .add s24 (cn 1) w39,
qMov s39 w24] 2)))))))
(.seq (.region [seqO (r_load 2 true s3 0 40) w40,
seqO (r_store 2 s6 s40 0 0) wN] 2)
.ret))),false⟩
def q200:QFn:=⟨2,[.t s4],
(.seq (.region [qMov (cn 0) w4] 1)
(.seq (.seq (.region [qMov s0 w6,
seqO (r_callF 103 [s6] 0 7) w7,
qMov s7 w5] 3)
(.seq (.region [qMov s5 w8,
qBin bNeq .neq s8 (cn 0) w9] 2)
(.cond s9 (.seq (.region [qMov s5 w10,
qMov s10 w4] 2)
.ret)
.skip)))
(.seq (.seq (.region [qMov s1 w11,
qBin bLss .lss s11 (cn 0) w12,
qMov s12 w13,
gdO s13 false w14 (qMov s1 w14),
gdO s13 false w15 (qMov s0 w15),
gdO s13 false w16 (seqO (r_len s15 0 16) w16),
gdO s13 false w17 (qBin bGeq .geq s14 s16 w17),
qPick s13 cT s17 w18] 8)
(.cond s18 (.seq (.region [qMov (cn 2) w4] 1)
.ret)
.skip))
(.seq (.region [qMov (cn 0) w4] 1)
.ret)))),false⟩
def q203:QFn:=⟨1,[.t s2],
(.seq (.region [seqO (r_box s0 0 1) w1,
qMov cF w2] 2)
(.seq (.region [qFad 1 s1 w4,
qLd s4 w5,
qBin bEql .eql s5 (cu 0) w6,
qMov s6 w3] 4)
(.seq (.seq (.region [qFad 4 s1 w7,
qLd s7 w8,
qBin bGtr .gtr s8 (cu 7) w9,
qMov s9 w10,
gdO s10 false w11 (qMov s3 w11),
gdO s10 false w12 (qFad 4 s1 w12),
gdO s10 false w13 (qLd s12 w13),
gdO s10 false w14 (qBin (bGen .and) .and s13 (cu 2) w14),
gdO s10 false w15 (qBin bNeq .neq s14 (cu 0) w15),
gdO s10 false w16 (seqO (r_eqb true s11 s15 0 16) w16),
qPick s10 cT s16 w17,
qMov s17 w18,
gdO s18 false w19 (qMov s3 w19),
gdO s18 false w20 (qMov s19 w20),
gdO s20 true w21 (qFad 4 s1 w21),
gdO s20 true w22 (qLd s21 w22),
gdO s20 true w23 (qBin (bGen .and) .and s22 (cu 1) w23),
gdO s20 true w24 (qBin bNeq .neq s23 (cu 0) w24),
gdO s18 false w25 (qPick s20 s24 cF w25),
qPick s18 cT s25 w26] 20)
(.cond s26 (.seq (.region [qMov cF w2] 1)
.ret)
.skip))
(.seq (.seq (.region [qFad 5 s1 w27,
qLd s27 w28,
qBin bNeq .neq s28 (cu 0) w29,
qMov s29 w30,
gdO s30 false w31 (qFad 6 s1 w31),
gdO s30 false w32 (qLd s31 w32),
gdO s30 false w33 (qBin bNeq .neq s32 (cu 0) w33),
qPick s30 cT s33 w34,
qMov s34 w35,
gdO s35 true w36 (qFad 6 s1 w36),
gdO s35 true w37 (qLd s36 w37),
gdO s35 true w38 (qBin bEql .eql s37 (cu 0) w38),
gdO s35 true w39 (qMov s38 w39),
gdO s39 false w40 (qFad 5 s1 w40),
gdO s39 false w41 (qLd s40 w41),
gdO s39 false w42 (qFad 6 s1 w42),
gdO s39 false w43 (qLd s42 w43),
gdO s39 false w44 (qBin bLeq .leq s41 s43 w44),
gdO s35 true w45 (qPick s39 cT s44 w45),
qPick s35 s45 cF w46] 20)
(.cond s46 (.seq (.region [qMov cF w2] 1)
.ret)
.skip))
(.seq (.seq (.region [qFad 1 s1 w47,
qLd s47 w48] 2)
(.block 0 (.seq (.region [qBin bEql .eql s48 (cu 1) w50,
qMov s50 w49] 2)
(.cond s49 (.seq (.region [qFad 3 s1 w51,
qLd s51 w52,
qBin bEql .eql s52 (cu 0) w53,
qMov s53 w2] 4)
.ret)
(.seq (.region [qBin bEql .eql s48 (cu 2) w55,
qMov s55 w54] 2)
(.cond s54 (.seq (.region [qFad 2 s1 w56,
qLd s56 w57,
qBin bLeq .leq s57 (cu 1) w58,
qMov s58 w59,
gdO s59 true w60 (qFad 3 s1 w60),
gdO s59 true w61 (qLd s60 w61),
gdO s59 true w62 (qBin bEql .eql s61 (cu 0) w62),
qPick s59 s62 cF w63,
qMov s63 w2] 9)
.ret)
(.seq (.region [qBin bEql .eql s48 (cu 3) w65,
qMov s65 w64] 2)
(.cond s64 (.seq (.region [qFad 3 s1 w66,
qLd s66 w67,
qBin bLeq .leq s67 (cu 64) w68,
qMov s68 w2] 4)
.ret)
(.seq (.region [qBin bEql .eql s48 (cu 4) w70,
qMov s70 w69] 2)
(.cond s69 (.seq (.region [qFad 2 s1 w71,
qLd s71 w72,
qBin bGeq .geq s72 (cu 1) w73,
qMov s73 w74,
gdO s74 true w75 (qFad 2 s1 w75),
gdO s74 true w76 (qLd s75 w76),
gdO s74 true w77 (qBin bLeq .leq s76 (cu 3) w77),
qPick s74 s77 cF w78,
qMov s78 w79,
gdO s79 true w80 (qFad 3 s1 w80),
gdO s79 true w81 (qLd s80 w81),
gdO s79 true w82 (qBin bEql .eql s81 (cu 0) w82),
qPick s79 s82 cF w83,
qMov s83 w2] 14)
.ret)
.skip))))))))))
(.seq (.region [qMov s3 w84,
qMov s84 w85,
gdO s85 true w86 (qFad 2 s1 w86),
gdO s85 true w87 (qLd s86 w87),
gdO s85 true w88 (qBin bEql .eql s87 (cu 0) w88),
qPick s85 s88 cF w89,
qMov s89 w90,
gdO s90 true w91 (qFad 3 s1 w91),
gdO s90 true w92 (qLd s91 w92),
gdO s90 true w93 (qBin bEql .eql s92 (cu 0) w93),
qPick s90 s93 cF w94,
qMov s94 w2] 12)
.ret)))))),false⟩
def q204:QFn:=⟨2,[.cell s4 7 true,.t s5],
(.seq (.region [seqO (r_box s0 0 2) w2,
seqO (r_alloc [u0,u0,u0,u0,u0,u0,u0] 0 4) w4,
qMov (cn 0) w5] 3)
(.seq (.seq (.region [seqO (r_load 2 true s2 0 10) w10,
qMov s1 w11,
seqO (r_callF 253 [s10,s11] 0 12) w12,
qMov s12 w6] 4)
(.seq (.region [qMov s6 w13,
qBin bNeq .neq s13 (cn 0) w14] 2)
(.cond s14 (.seq (.region [seqO (r_build [u0,u0,u0,u0,u0,u0,u0] [] 0 15) w15,
qMov s6 w16,
seqO (r_store 7 s4 s15 0 0) wN,
qMov s16 w5] 4)
.ret)
.skip)))
(.seq (.region [seqO (r_alloc [u0,u0,u0,u0,u0,u0,u0] 0 7) w7] 1)
(.seq (.seq (.region [qMov (cn 0) w17] 1)
(.block 0 (.loop (.seq (.region [qBin bLss .lss s17 (cn 7) w18] 1)
(.seq (.cond s18 .skip
(.exit 0))
(.seq (.block 1 (.seq (.region [qMov s17 w19,
qMov s19 w8] 2)
(.region [qMov s8 w21,
seqO (r_load 2 true s2 0 22) w22,
qMov s1 w23,
qMov s8 w24,
qBin (bGen .mul) .mul (cn 8) s24 w25,
seqO (r_conv .u64 s25 0 26) w26,
qBin bAdd .add s23 s26 w27,
seqO (r_callF 144 [s22,s27,(cn 8)] 0 28) w28,
qMov s28 w20,
seqO (r_extract s20 0 0 29) w29,
seqO (r_extract s20 1 0 30) w30,
seqO (r_indexArr 7 1 s7 s21 0 31) w31,
seqO (r_store 1 s31 s29 0 0) wN] 13)))
(.region [qBin bAdd .add s17 (cn 1) w32,
qMov s32 w17] 2)))))))
(.seq (.region [seqO (r_indexArr 7 1 s7 (cn 0) 0 33) w33,
qLd s33 w34,
seqO (r_indexArr 7 1 s7 (cn 1) 0 35) w35,
qLd s35 w36,
seqO (r_indexArr 7 1 s7 (cn 2) 0 37) w37,
qLd s37 w38,
seqO (r_indexArr 7 1 s7 (cn 3) 0 39) w39,
qLd s39 w40,
seqO (r_indexArr 7 1 s7 (cn 4) 0 41) w41,
qLd s41 w42,
seqO (r_indexArr 7 1 s7 (cn 5) 0 43) w43,
qLd s43 w44,
seqO (r_indexArr 7 1 s7 (cn 6) 0 45) w45,
qLd s45 w46,
seqO (r_build [u0,u0,u0,u0,u0,u0,u0] [(0,1,s34),(1,1,s36),(2,1,s38),(3,1,s40),(4,1,s42),(5,1,s44),(6,1,s46)] 0 47) w47,
seqO (r_alloc [u0,u0,u0,u0,u0,u0,u0] 0 9) w9,
seqO (r_store 7 s9 s47 0 0) wN] 17)
(.seq (.seq (.region [seqO (r_load 7 true s9 0 48) w48,
seqO (r_callF 203 [s48] 0 49) w49,
seqO (r_un .not s49 0 50) w50] 3)
(.cond s50 (.seq (.region [seqO (r_build [u0,u0,u0,u0,u0,u0,u0] [] 0 51) w51,
seqO (r_store 7 s4 s51 0 0) wN,
qMov (cn 12) w5] 3)
.ret)
.skip))
(.seq (.region [seqO (r_load 7 true s9 0 52) w52,
seqO (r_store 7 s4 s52 0 0) wN,
qMov (cn 0) w5] 3)
.ret))))))),false⟩
def q205:QFn:=⟨1,[],
(.seq (.draw [⟨(r_mov s0 0 2),w2,0⟩,
⟨(r_nilCheck s2 0 3),w3,1⟩,
⟨(r_fieldAddr 0 s3 0 4),w4,3⟩,
⟨(r_fieldAddr 9 s4 0 5),w5,7⟩,
⟨(r_load 1 false s5 0 6),w6,15⟩,
⟨(r_mov s0 0 7),w7,0⟩,
⟨(r_nilCheck s7 0 8),w8,32⟩,
⟨(r_fieldAddr 12 s8 0 9),w9,96⟩,
⟨(r_load 1 false s9 0 10),w10,224⟩,
⟨(r_indexAddr 2 s6 s10 0 11),w11,511⟩,
⟨(r_fieldAddr 1 s11 0 12),w12,1023⟩,
⟨(r_store 1 s12 (cK oF) 0 0),wN,2047⟩] 12)
(.draw [⟨(r_mov s0 0 14),w14,0⟩,
⟨(r_mov s0 0 15),w15,0⟩,
⟨(r_nilCheck s15 0 16),w16,2⟩,
⟨(r_fieldAddr 0 s16 0 17),w17,6⟩,
⟨(r_fieldAddr 10 s17 0 18),w18,14⟩,
⟨(r_load 1 false s18 0 19),w19,30⟩,
⟨(r_mov s0 0 20),w20,0⟩,
⟨(r_nilCheck s20 0 21),w21,64⟩,
⟨(r_fieldAddr 12 s21 0 22),w22,192⟩,
⟨(r_load 1 false s22 0 23),w23,448⟩,
⟨(fr fun d=>r_call 254 [s19,s23] 393217 d),w24,1022⟩,
⟨(r_mov s24 0 13),w13,2046⟩,
⟨(r_extract s13 0 0 25),w25,4094⟩,
⟨(r_extract s13 1 0 26),w26,4094⟩,
⟨(r_nilCheck s14 0 27),w27,8191⟩,
⟨(r_fieldAddr 0 s27 0 28),w28,24575⟩,
⟨(r_fieldAddr 10 s28 0 29),w29,57343⟩,
⟨(r_store 1 s29 s25 0 0),wN,122879⟩] 18)),true⟩
def q206:QFn:=⟨3,[.cell s6 2 true,.t s7],
(.seq (.region [seqO (r_box s0 0 3) w3,
seqO (r_box s2 0 5) w5,
seqO (r_alloc [u0,oF] 0 6) w6,
qMov (cn 0) w7] 4)
(.seq (.seq (.region [seqO (r_load 2 true s3 0 9) w9,
qMov s1 w10,
seqO (r_callF 253 [s9,s10] 0 11) w11,
qMov s11 w8] 4)
(.seq (.region [qMov s8 w12,
qBin bNeq .neq s12 (cn 0) w13] 2)
(.cond s13 (.seq (.region [seqO (r_build [u0,oF] [] 0 14) w14,
qMov s8 w15,
seqO (r_store 2 s6 s14 0 0) wN,
qMov s15 w7] 4)
.ret)
.skip)))
(.seq (.seq (.region [seqO (r_load 7 true s5 0 16) w16,
seqO (r_callF 203 [s16] 0 17) w17,
seqO (r_un .not s17 0 18) w18] 3)
(.cond s18 (.seq (.region [seqO (r_build [u0,oF] [] 0 19) w19,
seqO (r_store 2 s6 s19 0 0) wN,
qMov (cn 2) w7] 3)
.ret)
.skip))
(.seq (.region [seqO (r_load 2 true s3 0 20) w20,
qMov s1 w21,
seqO (r_load 7 true s5 0 22) w22,
seqO (r_call 199 [s20,s21,s22] 0 23) w23,
seqO (r_store 2 s6 s23 0 0) wN,
qMov (cn 0) w7] 6)
.ret)))),false⟩
def q207:QFn:=⟨3,[.cell s6 2 true,.t s7],
(.seq (.region [seqO (r_box s0 0 3) w3,
seqO (r_alloc [u0,oF] 0 6) w6,
qMov (cn 0) w7] 3)
(.seq (.region [seqO (r_load 2 true s3 0 14) w14,
qMov s1 w15,
seqO (r_call 197 [s14,s15] 0 16) w16,
qMov s16 w13,
seqO (r_extract s13 0 0 17) w17,
seqO (r_extract s13 1 0 18) w18,
qMov s17 w8,
qMov s18 w9] 8)
(.seq (.seq (.region [qMov s9 w19,
qBin bNeq .neq s19 (cn 0) w20] 2)
(.cond s20 (.seq (.region [seqO (r_build [u0,oF] [] 0 21) w21,
qMov s9 w22,
seqO (r_store 2 s6 s21 0 0) wN,
qMov s22 w7] 4)
.ret)
.skip))
(.seq (.region [seqO (r_load 2 true s3 0 23) w23,
seqO (r_call 198 [s23] 0 24) w24,
seqO (r_alloc [u0,oF] 0 10) w10,
seqO (r_store 2 s10 s24 0 0) wN] 4)
(.seq (.seq (.region [qMov s8 w25,
seqO (r_len s25 0 26) w26,
qMov (cn 0) w27] 3)
(.block 0 (.loop (.seq (.region [qBin bLss .lss s27 s26 w28] 1)
(.seq (.cond s28 .skip
(.exit 0))
(.seq (.block 1 (.seq (.region [qMov s27 w29,
seqO (r_indexAddr 7 s25 s27 0 30) w30,
seqO (r_load 7 true s30 0 31) w31,
seqO (r_alloc [u0,u0,u0,u0,u0,u0,u0] 0 12) w12,
qMov s29 w11,
seqO (r_store 7 s12 s31 0 0) wN] 6)
(.seq (.seq (.region [qMov s11 w32,
qBin bGtr .gtr s32 (cn 0) w33,
qMov s33 w34,
gdO s34 true w35 (qFad 5 s12 w35),
gdO s34 true w36 (qLd s35 w36),
gdO s34 true w37 (qMov s2 w37),
gdO s34 true w38 (qBin bGtr .gtr s36 s37 w38),
qPick s34 s38 cF w39] 8)
(.cond s39 (.seq (.region [qFad 4 s12 w40,
qLd s40 w41,
qBin (bGen .or) .or s41 (cu 4) w42,
qFad 4 s12 w43,
seqO (r_store 1 s43 s42 0 0) wN] 5)
(.region [seqO (r_load 2 true s10 0 44) w44,
qMov s1 w45,
seqO (r_load 7 true s12 0 46) w46,
seqO (r_call 199 [s44,s45,s46] 0 47) w47,
seqO (r_store 2 s10 s47 0 0) wN] 5))
.skip))
(.region [qFad 0 s12 w48,
qLd s48 w49,
qMov s49 w1] 3))))
(.region [qBin bAdd .add s27 (cn 1) w50,
qMov s50 w27] 2)))))))
(.seq (.region [seqO (r_load 2 true s10 0 51) w51,
seqO (r_store 2 s6 s51 0 0) wN,
qMov (cn 0) w7] 3)
.ret)))))),false⟩
def q208:QFn:=⟨2,[.t s4,.t s5],
(.seq (.region [qMov (cK oF) w4,
qMov (cn 0) w5] 2)
(.seq (.seq (.region [qMov s0 w8,
seqO (r_callF 191 [s8] 0 9) w9,
qMov s9 w6] 3)
(.seq (.region [qMov s6 w10,
qBin bNeq .neq s10 (cn 0) w11] 2)
(.cond s11 (.seq (.region [qMov s6 w12,
qMov (cK oF) w4,
qMov s12 w5] 3)
.ret)
.skip)))
(.seq (.seq (.region [qMov s1 w13,
qBin bLss .lss s13 (cn 0) w14,
qMov s14 w15,
gdO s15 false w16 (qMov s1 w16),
gdO s15 false w17 (qMov s0 w17),
gdO s15 false w18 (seqO (r_len s17 0 18) w18),
gdO s15 false w19 (qBin bGeq .geq s16 s18 w19),
qPick s15 cT s19 w20] 8)
(.cond s20 (.seq (.region [qMov (cK oF) w4,
qMov (cn 2) w5] 2)
.ret)
.skip))
(.seq (.region [qMov s0 w21,
seqO (r_call 192 [s21] 0 22) w22,
qMov s22 w7] 3)
(.seq (.seq (.region [qMov s7 w23,
qMov s1 w24,
seqO (r_indexAddr 2 s23 s24 0 25) w25,
qFad 0 s25 w26,
qLd s26 w27,
qBin bGtr .gtr s27 (cn 256) w28] 6)
(.cond s28 (.seq (.region [qMov (cK oF) w4,
qMov (cn 16) w5] 2)
.ret)
.skip))
(.seq (.region [qMov s7 w29,
qMov s29 w4,
qMov (cn 0) w5] 3)
.ret)))))),false⟩
def q209:QFn:=⟨1,[.t s2],
(.seq (.region [seqO (r_box s0 0 1) w1,
qMov cF w2] 2)
(.seq (.region [qFad 2 s1 w3,
qLd s3 w4,
qBin bGeq .geq s4 (cn 0) w5,
qMov s5 w6,
gdO s6 true w7 (qFad 2 s1 w7),
gdO s6 true w8 (qLd s7 w8),
gdO s6 true w9 (qBin bLss .lss s8 (cn 32) w9),
qPick s6 s9 cF w10,
qMov s10 w11,
gdO s11 true w12 (qFad 3 s1 w12),
gdO s11 true w13 (qLd s12 w13),
gdO s11 true w14 (qMov s13 w14),
gdO s14 false w15 (qFad 4 s1 w15),
gdO s14 false w16 (qLd s15 w16),
gdO s14 false w17 (qBin bEql .eql s16 (cu 0) w17),
gdO s11 true w18 (qPick s14 cT s17 w18),
qPick s11 s18 cF w19,
qMov s19 w2] 18)
.ret)),false⟩
def q210:QFn:=⟨4,[.cell s8 2 true,.t s9],
(.seq (.region [seqO (r_box s0 0 4) w4,
seqO (r_alloc [u0,oF] 0 8) w8,
qMov (cn 0) w9] 3)
(.seq (.region [seqO (r_load 2 true s4 0 14) w14,
qMov s1 w15,
qMov s2 w16,
seqO (r_callF 216 [s14,s15,s16] 0 17) w17,
qMov s17 w13,
seqO (r_extract s13 0 0 18) w18,
seqO (r_extract s13 1 0 19) w19,
qMov s18 w10,
qMov s19 w11] 9)
(.seq (.seq (.region [qMov s2 w20,
qBin bEql .eql s20 (cn 1) w21,
qMov s21 w22,
gdO s22 true w23 (qMov s3 w23),
gdO s22 true w24 (qBin bGtr .gtr s23 (cu 255) w24),
qPick s22 s24 cF w25,
qMov s25 w26,
gdO s26 true w27 (qMov s11 w27),
gdO s26 true w28 (qBin bNeq .neq s27 (cn 8) w28),
qPick s26 s28 cF w29] 10)
(.cond s29 (.region [qMov (cn 2) w11] 1)
.skip))
(.seq (.seq (.region [qMov s11 w30,
qBin bNeq .neq s30 (cn 0) w31] 2)
(.cond s31 (.seq (.region [seqO (r_build [u0,oF] [] 0 32) w32,
qMov s11 w33,
seqO (r_store 2 s8 s32 0 0) wN,
qMov s33 w9] 4)
.ret)
.skip))
(.seq (.region [qFad 1 s4 w34,
qLd s34 w35,
seqO (r_clone 1 1 s35 1 36) w36,
qFad 1 s4 w37,
seqO (r_store 1 s37 s36 0 0) wN] 5)
(.seq (.seq (.region [qMov s2 w38,
qMov (cn 0) w39] 2)
(.block 0 (.loop (.seq (.region [qBin bLss .lss s39 s38 w40] 1)
(.seq (.cond s40 .skip
(.exit 0))
(.seq (.block 1 (.seq (.region [qMov s39 w41,
qMov s41 w12] 2)
(.draw [⟨(r_fieldAddr 1 s4 0 42),w42,0⟩,
⟨(r_load 1 false s42 0 43),w43,1⟩,
⟨(r_mov s10 0 44),w44,0⟩,
⟨(r_mov s12 0 45),w45,0⟩,
⟨(r_bin .add s44 s45 0 46),w46,12⟩,
⟨(r_mov s3 0 47),w47,0⟩,
⟨(r_mov s12 0 48),w48,0⟩,
⟨(r_bin .mul (cn 8) s48 0 49),w49,64⟩,
⟨(r_bin .shr s47 s49 0 50),w50,224⟩,
⟨(r_conv .u8 s50 0 51),w51,480⟩,
⟨(r_indexAddr 1 s43 s46 0 52),w52,1023⟩,
⟨(r_store 1 s52 s51 0 0),wN,2047⟩] 12)))
(.region [qBin bAdd .add s39 (cn 1) w53,
qMov s53 w39] 2)))))))
(.seq (.region [seqO (r_load 2 true s4 0 54) w54,
seqO (r_store 2 s8 s54 0 0) wN,
qMov (cn 0) w9] 3)
.ret))))))),false⟩
def q214:QFn:=⟨3,[.t s6,.t s7,.t s8],
(.seq (.region [seqO (r_box s0 0 3) w3,
qMov (cn 0) w6,
qMov (cn 0) w7,
qMov (cn 0) w8] 4)
(.seq (.seq (.region [seqO (r_load 3 true s3 0 12) w12,
seqO (r_callF 107 [s12] 0 13) w13,
qMov s13 w9] 3)
(.seq (.region [qMov s9 w14,
qBin bNeq .neq s14 (cn 0) w15] 2)
(.cond s15 (.seq (.region [qMov s9 w16,
qMov (cn 0) w6,
qMov (cn 0) w7,
qMov s16 w8] 4)
.ret)
.skip)))
(.seq (.seq (.region [qMov s1 w17,
qBin bLss .lss s17 (cn 0) w18,
qMov s18 w19,
gdO s19 false w20 (qMov s1 w20),
gdO s19 false w21 (qFad 2 s3 w21),
gdO s19 false w22 (qLd s21 w22),
gdO s19 false w23 (seqO (r_len s22 0 23) w23),
gdO s19 false w24 (qBin bGeq .geq s20 s23 w24),
qPick s19 cT s24 w25,
qMov s25 w26,
gdO s26 false w27 (qMov s2 w27),
gdO s26 false w28 (qBin bLss .lss s27 (cn 0) w28),
qPick s26 cT s28 w29,
qMov s29 w30,
gdO s30 false w31 (qMov s2 w31),
gdO s30 false w32 (qFad 2 s3 w32),
gdO s30 false w33 (qLd s32 w33),
gdO s30 false w34 (qMov s1 w34),
gdO s30 false w35 (seqO (r_indexAddr 7 s33 s34 0 35) w35),
gdO s30 false w36 (qFad 3 s35 w36),
gdO s30 false w37 (qLd s36 w37),
gdO s30 false w38 (seqO (r_len s37 0 38) w38),
gdO s30 false w39 (qBin bGeq .geq s31 s38 w39),
qPick s30 cT s39 w40] 24)
(.cond s40 (.seq (.region [qMov (cn 0) w6,
qMov (cn 0) w7,
qMov (cn 2) w8] 3)
.ret)
.skip))
(.seq (.region [seqO (r_load 3 true s3 0 42) w42,
qMov s1 w43,
seqO (r_call 188 [s42,s43] 0 44) w44,
qMov s44 w41,
seqO (r_extract s41 0 0 45) w45,
seqO (r_extract s41 1 0 46) w46,
qMov s45 w10,
qMov s46 w11] 8)
(.seq (.draw [⟨(r_mov s10 0 47),w47,0⟩,
⟨(r_mov s2 0 48),w48,0⟩,
⟨(r_indexAddr 1 s47 s48 0 49),w49,3⟩,
⟨(r_load 1 false s49 0 50),w50,7⟩,
⟨(r_bin .add (cn 24) s50 0 51),w51,15⟩,
⟨(r_fieldAddr 2 s3 0 52),w52,0⟩,
⟨(r_load 1 false s52 0 53),w53,32⟩,
⟨(r_mov s1 0 54),w54,0⟩,
⟨(r_indexAddr 7 s53 s54 0 55),w55,224⟩,
⟨(r_fieldAddr 3 s55 0 56),w56,480⟩,
⟨(r_load 1 false s56 0 57),w57,992⟩,
⟨(r_mov s2 0 58),w58,0⟩,
⟨(r_indexAddr 2 s57 s58 0 59),w59,4064⟩,
⟨(r_fieldAddr 1 s59 0 60),w60,8160⟩,
⟨(r_load 1 false s60 0 61),w61,16352⟩,
⟨(r_mov s51 0 6),w6,31⟩,
⟨(r_mov s61 0 7),w7,65535⟩,
⟨(r_mov (cn 0) 0 8),w8,131071⟩] 18)
.ret))))),false⟩
def q215:QFn:=⟨3,[.t s6,.t s7],
(.seq (.region [seqO (r_box s0 0 3) w3,
qMov (cn 0) w6,
qMov cF w7] 3)
(.seq (.seq (.region [qMov s1 w9,
qFad 0 s3 w10,
qLd s10 w11,
qBin bLss .lss s9 s11 w12,
qMov s12 w13,
gdO s13 false w14 (qMov s1 w14),
gdO s13 false w15 (qFad 0 s3 w15),
gdO s13 false w16 (qLd s15 w16),
gdO s13 false w17 (qBin bSub .sub s14 s16 w17),
gdO s13 false w18 (qFad 1 s3 w18),
gdO s13 false w19 (qLd s18 w19),
gdO s13 false w20 (seqO (r_len s19 0 20) w20),
gdO s13 false w21 (seqO (r_conv .u64 s20 0 21) w21),
gdO s13 false w22 (qBin bGtr .gtr s17 s21 w22),
qPick s13 cT s22 w23] 15)
(.cond s23 (.seq (.region [qMov (cn 0) w6,
qMov cF w7] 2)
.ret)
.skip))
(.seq (.region [qMov s1 w24,
qFad 0 s3 w25,
qLd s25 w26,
qBin bSub .sub s24 s26 w27,
seqO (r_conv .i64 s27 0 28) w28,
qMov s28 w8] 6)
(.seq (.draw [⟨(r_mov s8 0 29),w29,0⟩,
⟨(r_mov s2 0 30),w30,0⟩,
⟨(r_fieldAddr 1 s3 0 31),w31,0⟩,
⟨(r_load 1 false s31 0 32),w32,4⟩,
⟨(r_len s32 0 33),w33,12⟩,
⟨(r_mov s8 0 34),w34,0⟩,
⟨(r_bin .sub s33 s34 0 35),w35,60⟩,
⟨(r_bin .leq s30 s35 0 36),w36,126⟩,
⟨(r_mov s29 0 6),w6,1⟩,
⟨(r_mov s36 0 7),w7,511⟩] 10)
.ret)))),false⟩
def q216:QFn:=⟨3,[.t s6,.t s7],
(.seq (.region [seqO (r_box s0 0 3) w3,
qMov (cn 0) w6,
qMov (cn 0) w7] 3)
(.seq (.seq (.region [seqO (r_load 2 true s3 0 11) w11,
seqO (r_callF 36 [s11] 0 12) w12,
qMov s12 w8] 3)
(.seq (.region [qMov s8 w13,
qBin bNeq .neq s13 (cn 0) w14] 2)
(.cond s14 (.seq (.region [qMov s8 w15,
qMov (cn 0) w6,
qMov s15 w7] 3)
.ret)
.skip)))
(.seq (.seq (.region [qMov s2 w16,
qBin bNeq .neq s16 (cn 1) w17,
qMov s17 w18,
gdO s18 true w19 (qMov s2 w19),
gdO s18 true w20 (qBin bNeq .neq s19 (cn 8) w20),
qPick s18 s20 cF w21] 6)
(.cond s21 (.seq (.region [qMov (cn 0) w6,
qMov (cn 2) w7] 2)
.ret)
.skip))
(.seq (.region [seqO (r_load 2 true s3 0 23) w23,
qMov s1 w24,
qMov s2 w25,
seqO (r_callF 215 [s23,s24,s25] 0 26) w26,
qMov s26 w22,
seqO (r_extract s22 0 0 27) w27,
seqO (r_extract s22 1 0 28) w28,
qMov s27 w9,
qMov s28 w10] 9)
(.seq (.seq (.region [qMov s10 w29,
seqO (r_un .not s29 0 30) w30] 2)
(.cond s30 (.seq (.region [qMov (cn 0) w6,
qMov (cn 16) w7] 2)
.ret)
.skip))
(.seq (.region [qMov s9 w31,
qMov s31 w6,
qMov (cn 0) w7] 3)
.ret)))))),false⟩
def q217:QFn:=⟨1,[.t s2],
(.seq (.region [qMov (cn 0) w2] 1)
(.seq (.region [qMov (cn 1) w3] 1)
(.seq (.block 0 (.loop (.seq (.seq (.region [qMov s3 w4,
qBin (bGen .mul) .mul (cn 8) s4 w5,
qMov s0 w6,
qBin bLss .lss s5 s6 w7] 4)
(.cond s7 .skip
(.exit 0)))
(.block 1 (.region [qMov s3 w8,
qBin bAdd .add s8 (cn 1) w9,
qMov s9 w3] 3)))))
(.seq (.region [qMov s3 w10,
qBin (bGen .mul) .mul (cn 8) s10 w11,
qMov s11 w2] 3)
.ret)))),false⟩
def q218:QFn:=⟨2,[.t s4],
(.seq (.region [qMov cF w4] 1)
(.seq (.region [qMov s0 w7,
qMov s1 w8,
seqO (r_indexAddr 4 s7 s8 0 9) w9,
seqO (r_load 4 true s9 0 10) w10,
seqO (r_alloc [b0,i0,i0,oF] 0 5) w5,
seqO (r_store 4 s5 s10 0 0) wN] 6)
(.seq (.seq (.region [qFad 0 s5 w11,
qLd s11 w12] 2)
(.block 0 (.seq (.seq (.region [qBin bEql .eql s12 (cb 1) w14,
qMov s14 w13] 2)
(.cond s13 .skip
(.seq (.region [qBin bEql .eql s12 (cb 2) w15,
qMov s15 w13] 2)
(.cond s13 .skip
(.region [qBin bEql .eql s12 (cb 3) w16,
qMov s16 w13] 2)))))
(.cond s13 (.seq (.region [qFad 1 s5 w17,
qLd s17 w18,
qBin bEql .eql s18 (cn 0) w19,
qMov s19 w20,
gdO s20 true w21 (qFad 2 s5 w21),
gdO s20 true w22 (qLd s21 w22),
gdO s20 true w23 (qBin bEql .eql s22 (cn 0) w23),
qPick s20 s23 cF w24,
qMov s24 w25,
gdO s25 true w26 (qFad 3 s5 w26),
gdO s25 true w27 (qLd s26 w27),
gdO s25 true w28 (seqO (r_len s27 0 28) w28),
gdO s25 true w29 (qBin bEql .eql s28 (cn 0) w29),
qPick s25 s29 cF w30,
qMov s30 w4] 15)
.ret)
(.seq (.seq (.region [qBin bEql .eql s12 (cb 4) w32,
qMov s32 w31] 2)
(.cond s31 .skip
(.region [qBin bEql .eql s12 (cb 7) w33,
qMov s33 w31] 2)))
(.cond s31 (.seq (.region [qFad 1 s5 w34,
qLd s34 w35,
qBin bGeq .geq s35 (cn 0) w36,
qMov s36 w37,
gdO s37 true w38 (qFad 1 s5 w38),
gdO s37 true w39 (qLd s38 w39),
gdO s37 true w40 (qMov s0 w40),
gdO s37 true w41 (seqO (r_len s40 0 41) w41),
gdO s37 true w42 (qBin bLss .lss s39 s41 w42),
qPick s37 s42 cF w43,
qMov s43 w44,
gdO s44 true w45 (qFad 2 s5 w45),
gdO s44 true w46 (qLd s45 w46),
gdO s44 true w47 (qBin bEql .eql s46 (cn 0) w47),
qPick s44 s47 cF w48,
qMov s48 w49,
gdO s49 true w50 (qFad 3 s5 w50),
gdO s49 true w51 (qLd s50 w51),
gdO s49 true w52 (seqO (r_len s51 0 52) w52),
gdO s49 true w53 (qBin bEql .eql s52 (cn 0) w53),
qPick s49 s53 cF w54,
qMov s54 w4] 22)
.ret)
(.seq (.region [qBin bEql .eql s12 (cb 6) w56,
qMov s56 w55] 2)
(.cond s55 (.seq (.region [qFad 1 s5 w57,
qLd s57 w58,
qBin bGeq .geq s58 (cn 0) w59,
qMov s59 w60,
gdO s60 true w61 (qFad 1 s5 w61),
gdO s60 true w62 (qLd s61 w62),
gdO s60 true w63 (qMov s1 w63),
gdO s60 true w64 (qBin bLss .lss s62 s63 w64),
qPick s60 s64 cF w65,
qMov s65 w66,
gdO s66 true w67 (qFad 2 s5 w67),
gdO s66 true w68 (qLd s67 w68),
gdO s66 true w69 (qBin bGeq .geq s68 (cn 1) w69),
qPick s66 s69 cF w70,
qMov s70 w71,
gdO s71 true w72 (qFad 2 s5 w72),
gdO s71 true w73 (qLd s72 w73),
gdO s71 true w74 (qBin bLeq .leq s73 (cn 16) w74),
qPick s71 s74 cF w75,
qMov s75 w76,
gdO s76 true w77 (qFad 3 s5 w77),
gdO s76 true w78 (qLd s77 w78),
gdO s76 true w79 (seqO (r_len s78 0 79) w79),
gdO s76 true w80 (qBin bEql .eql s79 (cn 0) w80),
qPick s76 s80 cF w81,
qMov s81 w4] 26)
.ret)
(.seq (.region [qBin bEql .eql s12 (cb 5) w83,
qMov s83 w82] 2)
(.cond s82 (.seq (.seq (.region [qMov (cn 0) w6] 1)
(.block 1 (.loop (.seq (.seq (.region [qMov s6 w84,
qFad 3 s5 w85,
qLd s85 w86,
seqO (r_len s86 0 87) w87,
qBin bLss .lss s84 s87 w88] 5)
(.cond s88 .skip
(.exit 1)))
(.seq (.block 2 (.seq (.region [qFad 3 s5 w91,
qLd s91 w92,
qMov s6 w93,
seqO (r_indexAddr 2 s92 s93 0 94) w94,
qFad 1 s94 w95,
qLd s95 w96,
qBin bLss .lss s96 (cn 0) w97,
qMov s97 w98,
gdO s98 false w99 (qFad 3 s5 w99),
gdO s98 false w100 (qLd s99 w100),
gdO s98 false w101 (qMov s6 w101),
gdO s98 false w102 (seqO (r_indexAddr 2 s100 s101 0 102) w102),
gdO s98 false w103 (qFad 1 s102 w103),
gdO s98 false w104 (qLd s103 w104),
gdO s98 false w105 (qMov s1 w105),
gdO s98 false w106 (qBin bGeq .geq s104 s105 w106),
qPick s98 cT s106 w107] 17)
(.cond s107 (.seq (.region [qMov cF w4] 1)
.ret)
.skip)))
(.region [qMov s6 w89,
qBin bAdd .add s89 (cn 1) w90,
qMov s90 w6] 3))))))
(.seq (.region [qFad 1 s5 w108,
qLd s108 w109,
qBin bEql .eql s109 (cn 0) w110,
qMov s110 w111,
gdO s111 true w112 (qFad 2 s5 w112),
gdO s111 true w113 (qLd s112 w113),
gdO s111 true w114 (qBin bEql .eql s113 (cn 0) w114),
qPick s111 s114 cF w115,
qMov s115 w116,
gdO s116 true w117 (qFad 3 s5 w117),
gdO s116 true w118 (qLd s117 w118),
gdO s116 true w119 (seqO (r_len s118 0 119) w119),
gdO s116 true w120 (qBin bGtr .gtr s119 (cn 0) w120),
qPick s116 s120 cF w121,
qMov s121 w122,
gdO s122 true w123 (qFad 3 s5 w123),
gdO s122 true w124 (qLd s123 w124),
gdO s122 true w125 (seqO (r_callF 221 [s124,(cn 8)] 0 125) w125),
qPick s122 s125 cF w126,
qMov s126 w4] 20)
.ret))
.skip))))))))))
(.seq (.region [qMov cF w4] 1)
.ret)))),false⟩
def q219:QFn:=⟨2,[.t s4],
(.seq (.region [qMov (cK oF) w4] 1)
(.seq (.region [qMov (cK oF) w5] 1)
(.seq (.seq (.region [qMov s1 w12,
qBin bGtr .gtr s12 (cn 0) w13] 2)
(.cond s13 (.region [qMov s0 w14,
qMov s1 w15,
qBin bSub .sub s15 (cn 1) w16,
seqO (r_call 219 [s14,s16] 0 17) w17,
qMov s17 w5] 5)
.skip))
(.seq (.region [qMov (cK oF) w6] 1)
(.seq (.seq (.region [qMov (cn 0) w7] 1)
(.block 0 (.loop (.seq (.seq (.region [qMov s7 w18,
qMov s0 w19,
seqO (r_len s19 0 20) w20,
qBin bLss .lss s18 s20 w21] 4)
(.cond s21 .skip
(.exit 0)))
(.seq (.block 1 (.seq (.region [qMov s0 w24,
qMov s7 w25,
seqO (r_indexAddr 4 s24 s25 0 26) w26,
seqO (r_load 4 true s26 0 27) w27,
seqO (r_call 258 [s27] 0 28) w28,
qMov (cn 1) w8,
qMov s28 w9] 7)
(.seq (.seq (.region [qMov (cn 0) w10] 1)
(.block 2 (.loop (.seq (.seq (.region [qMov s10 w29,
qMov s9 w30,
seqO (r_len s30 0 31) w31,
qBin bLss .lss s29 s31 w32] 4)
(.cond s32 .skip
(.exit 2)))
(.seq (.block 3 (.seq (.region [qMov (cn 1) w11] 1)
(.seq (.seq (.region [qMov s0 w35,
qMov s7 w36,
seqO (r_indexAddr 4 s35 s36 0 37) w37,
qFad 0 s37 w38,
qLd s38 w39,
qBin bEql .eql s39 (cb 6) w40] 6)
(.cond s40 (.region [qMov s0 w41,
qMov s7 w42,
seqO (r_indexAddr 4 s41 s42 0 43) w43,
qFad 2 s43 w44,
qLd s44 w45,
qMov s45 w11] 6)
.skip))
(.region [qMov s8 w46,
qMov s11 w47,
qMov s6 w48,
qMov s9 w49,
qMov s10 w50,
seqO (r_indexAddr 1 s49 s50 0 51) w51,
qLd s51 w52,
seqO (r_indexAddr 1 s48 s52 0 53) w53,
qLd s53 w54,
qBin (bGen .mul) .mul s47 s54 w55,
qBin bAdd .add s46 s55 w56,
seqO (r_mini s56 (cn 5001) 0 57) w57,
qMov s57 w8] 13))))
(.region [qMov s10 w33,
qBin bAdd .add s33 (cn 1) w34,
qMov s34 w10] 3))))))
(.seq (.seq (.region [qMov s1 w58,
qBin bGtr .gtr s58 (cn 0) w59,
qMov s59 w60,
gdO s60 true w61 (qMov s0 w61),
gdO s60 true w62 (qMov s7 w62),
gdO s60 true w63 (seqO (r_indexAddr 4 s61 s62 0 63) w63),
gdO s60 true w64 (qFad 0 s63 w64),
gdO s60 true w65 (qLd s64 w65),
gdO s60 true w66 (qBin bEql .eql s65 (cb 4) w66),
qPick s60 s66 cF w67] 10)
(.cond s67 (.region [qMov s8 w68,
qMov s5 w69,
qMov s0 w70,
qMov s7 w71,
seqO (r_indexAddr 4 s70 s71 0 72) w72,
qFad 1 s72 w73,
qLd s73 w74,
seqO (r_indexAddr 1 s69 s74 0 75) w75,
qLd s75 w76,
qBin bAdd .add s68 s76 w77,
seqO (r_mini s77 (cn 5001) 0 78) w78,
qMov s78 w8] 12)
.skip))
(.seq (.seq (.region [qMov s1 w79,
qBin bGtr .gtr s79 (cn 0) w80,
qMov s80 w81,
gdO s81 true w82 (qMov s0 w82),
gdO s81 true w83 (qMov s7 w83),
gdO s81 true w84 (seqO (r_indexAddr 4 s82 s83 0 84) w84),
gdO s81 true w85 (qFad 0 s84 w85),
gdO s81 true w86 (qLd s85 w86),
gdO s81 true w87 (qBin bEql .eql s86 (cb 7) w87),
qPick s81 s87 cF w88] 10)
(.cond s88 (.region [qMov s8 w89,
qMov s5 w90,
qMov s0 w91,
qMov s7 w92,
seqO (r_indexAddr 4 s91 s92 0 93) w93,
qFad 1 s93 w94,
qLd s94 w95,
seqO (r_indexAddr 1 s90 s95 0 96) w96,
qLd s96 w97,
qBin (bGen .mul) .mul (cn 16) s97 w98,
qBin bAdd .add s89 s98 w99,
seqO (r_mini s99 (cn 5001) 0 100) w100,
qMov s100 w8] 13)
.skip))
(.region [qMov s6 w101,
qMov s8 w102,
seqO (r_buildSlice 1 1 [di] [(0,s102)] 0 103) w103,
seqO (r_append 1 8 s101 s103 0 104) w104,
qMov s104 w6] 5))))))
(.region [qMov s7 w22,
qBin bAdd .add s22 (cn 1) w23,
qMov s23 w7] 3))))))
(.seq (.region [qMov s6 w105,
qMov s105 w4] 2)
.ret)))))),false⟩
def q220:QFn:=⟨1,[.t s2],
(.seq (.region [qMov cF w2] 1)
(.seq (.seq (.region [qMov s0 w4,
seqO (r_lenS s4 0 5) w5,
qBin bLss .lss s5 (cn 1) w6,
qMov s6 w7,
gdO s7 false w8 (qMov s0 w8),
gdO s7 false w9 (seqO (r_lenS s8 0 9) w9),
gdO s7 false w10 (qBin bGtr .gtr s9 (cn 16) w10),
qPick s7 cT s10 w11,
qMov s11 w12,
gdO s12 false w13 (qMov s0 w13),
gdO s12 false w14 (seqO (r_indexS s13 (cn 0) 0 14) w14),
gdO s12 false w15 (seqO (r_callF 259 [s14] 0 15) w15),
gdO s12 false w16 (seqO (r_un .not s15 0 16) w16),
qPick s12 cT s16 w17] 14)
(.cond s17 (.seq (.region [qMov cF w2] 1)
.ret)
.skip))
(.seq (.seq (.region [qMov (cn 0) w3] 1)
(.block 0 (.loop (.seq (.seq (.region [qMov s3 w18,
qMov s0 w19,
seqO (r_lenS s19 0 20) w20,
qBin bLss .lss s18 s20 w21] 4)
(.cond s21 .skip
(.exit 0)))
(.seq (.block 1 (.seq (.region [qMov s0 w24,
qMov s3 w25,
seqO (r_indexS s24 s25 0 26) w26,
seqO (r_callF 259 [s26] 0 27) w27,
seqO (r_un .not s27 0 28) w28,
qMov s28 w29,
gdO s29 true w30 (qMov s0 w30),
gdO s29 true w31 (qMov s3 w31),
gdO s29 true w32 (seqO (r_indexS s30 s31 0 32) w32),
gdO s29 true w33 (qBin bLss .lss s32 (cb 48) w33),
gdO s29 true w34 (qMov s33 w34),
gdO s34 false w35 (qMov s0 w35),
gdO s34 false w36 (qMov s3 w36),
gdO s34 false w37 (seqO (r_indexS s35 s36 0 37) w37),
gdO s34 false w38 (qBin bGtr .gtr s37 (cb 57) w38),
gdO s29 true w39 (qPick s34 cT s38 w39),
qPick s29 s39 cF w40] 17)
(.cond s40 (.seq (.region [qMov cF w2] 1)
.ret)
.skip)))
(.region [qMov s3 w22,
qBin bAdd .add s22 (cn 1) w23,
qMov s23 w3] 3))))))
(.seq (.region [qMov cT w2] 1)
.ret)))),false⟩
def q221:QFn:=⟨2,[.t s4],
(.seq (.region [qMov cF w4] 1)
(.seq (.seq (.region [qMov s0 w7,
seqO (r_len s7 0 8) w8,
qMov s1 w9,
qBin bGtr .gtr s8 s9 w10] 4)
(.cond s10 (.seq (.region [qMov cF w4] 1)
.ret)
.skip))
(.seq (.seq (.region [qMov (cn 0) w5] 1)
(.block 0 (.loop (.seq (.seq (.region [qMov s5 w11,
qMov s0 w12,
seqO (r_len s12 0 13) w13,
qBin bLss .lss s11 s13 w14] 4)
(.cond s14 .skip
(.exit 0)))
(.seq (.block 1 (.seq (.seq (.region [qMov s0 w17,
qMov s5 w18,
seqO (r_indexAddr 2 s17 s18 0 19) w19,
qFad 0 s19 w20,
qLd s20 w21,
seqO (r_callF 220 [s21] 0 22) w22,
seqO (r_un .not s22 0 23) w23] 7)
(.cond s23 (.seq (.region [qMov cF w4] 1)
.ret)
.skip))
(.seq (.region [qMov (cn 0) w6] 1)
(.block 2 (.loop (.seq (.seq (.region [qMov s6 w24,
qMov s5 w25,
qBin bLss .lss s24 s25 w26] 3)
(.cond s26 .skip
(.exit 2)))
(.seq (.block 3 (.seq (.draw [⟨(r_mov s0 0 29),w29,0⟩,
⟨(r_mov s6 0 30),w30,0⟩,
⟨(r_indexAddr 2 s29 s30 0 31),w31,3⟩,
⟨(r_fieldAddr 0 s31 0 32),w32,7⟩,
⟨(r_load 1 false s32 0 33),w33,15⟩,
⟨(r_mov s0 0 34),w34,0⟩,
⟨(r_mov s5 0 35),w35,0⟩,
⟨(r_indexAddr 2 s34 s35 0 36),w36,96⟩,
⟨(r_fieldAddr 0 s36 0 37),w37,224⟩,
⟨(r_load 1 false s37 0 38),w38,480⟩,
⟨(r_bin .eql s33 s38 0 39),w39,1023⟩] 11)
(.cond s39 (.seq (.region [qMov cF w4] 1)
.ret)
.skip)))
(.region [qMov s6 w27,
qBin bAdd .add s27 (cn 1) w28,
qMov s28 w6] 3))))))))
(.region [qMov s5 w15,
qBin bAdd .add s15 (cn 1) w16,
qMov s16 w5] 3))))))
(.seq (.region [qMov cT w4] 1)
.ret)))),false⟩
def q222:QFn:=⟨2,[.t s4],
(.seq (.region [qMov cF w4] 1)
(.seq (.seq (.region [qMov s0 w6,
seqO (r_len s6 0 7) w7,
qBin bLss .lss s7 (cn 1) w8,
qMov s8 w9,
gdO s9 false w10 (qMov s0 w10),
gdO s9 false w11 (seqO (r_indexAddr 2 s10 (cn 0) 0 11) w11),
gdO s9 false w12 (qFad 0 s11 w12),
gdO s9 false w13 (qLd s12 w13),
gdO s9 false w14 (qBin bNeq .neq s13 (cn 0) w14),
qPick s9 cT s14 w15] 10)
(.cond s15 (.seq (.region [qMov cF w4] 1)
.ret)
.skip))
(.seq (.seq (.region [qMov (cn 0) w5] 1)
(.block 0 (.loop (.seq (.seq (.region [qMov s5 w16,
qMov s0 w17,
seqO (r_len s17 0 18) w18,
qBin bLss .lss s16 s18 w19] 4)
(.cond s19 .skip
(.exit 0)))
(.seq (.block 1 (.seq (.draw [⟨(r_mov s0 0 22),w22,0⟩,
⟨(r_mov s5 0 23),w23,0⟩,
⟨(r_indexAddr 2 s22 s23 0 24),w24,3⟩,
⟨(r_fieldAddr 0 s24 0 25),w25,7⟩,
⟨(r_load 1 false s25 0 26),w26,15⟩,
⟨(r_mov s1 0 27),w27,0⟩,
⟨(r_bin .geq s26 s27 0 28),w28,63⟩,
⟨(r_mov s28 0 29),w29,127⟩,
⟨gdR s29 false (r_mov s5 0 30),w30,255⟩,
⟨gdR s29 false (r_bin .gtr s30 (cn 0) 0 31),w31,511⟩,
⟨gdR s29 false (r_mov s31 0 32),w32,1023⟩,
⟨gdR s32 true (r_mov s0 0 33),w33,2047⟩,
⟨gdR s32 true (r_mov s5 0 34),w34,2047⟩,
⟨gdR s32 true (r_bin .sub s34 (cn 1) 0 35),w35,6143⟩,
⟨gdR s32 true (r_indexAddr 2 s33 s35 0 36),w36,16383⟩,
⟨gdR s32 true (r_fieldAddr 0 s36 0 37),w37,32767⟩,
⟨gdR s32 true (r_load 1 false s37 0 38),w38,65535⟩,
⟨gdR s32 true (r_mov s0 0 39),w39,2047⟩,
⟨gdR s32 true (r_mov s5 0 40),w40,2047⟩,
⟨gdR s32 true (r_indexAddr 2 s39 s40 0 41),w41,395263⟩,
⟨gdR s32 true (r_fieldAddr 0 s41 0 42),w42,919551⟩,
⟨gdR s32 true (r_load 1 false s42 0 43),w43,1968127⟩,
⟨gdR s32 true (r_bin .geq s38 s43 0 44),w44,4194303⟩,
⟨gdR s32 true (r_mov s44 0 45),w45,8388607⟩,
⟨gdR s45 false (r_mov s0 0 46),w46,16777215⟩,
⟨gdR s45 false (r_mov s5 0 47),w47,16777215⟩,
⟨gdR s45 false (r_bin .sub s47 (cn 1) 0 48),w48,50331647⟩,
⟨gdR s45 false (r_indexAddr 2 s46 s48 0 49),w49,134217727⟩,
⟨gdR s45 false (r_fieldAddr 1 s49 0 50),w50,268435455⟩,
⟨gdR s45 false (r_load 1 false s50 0 51),w51,536870911⟩,
⟨gdR s45 false (r_mov s0 0 52),w52,16777215⟩,
⟨gdR s45 false (r_mov s5 0 53),w53,16777215⟩,
⟨gdR s45 false (r_indexAddr 2 s52 s53 0 54),w54,3238002687⟩,
⟨gdR s45 false (r_fieldAddr 1 s54 0 55),w55,7532969983⟩,
⟨gdR s45 false (r_load 1 false s55 0 56),w56,16122904575⟩,
⟨gdR s45 false (r_bin .eql s51 s56 0 57),w57,34359738367⟩,
⟨gdR s32 true (r_pick s45 cT s57 0 58),w58,68719476735⟩,
⟨gdR s29 false (r_pick s32 s58 cF 0 59),w59,137438953471⟩,
⟨(r_pick s29 cT s59 0 60),w60,274877906943⟩] 39)
(.cond s60 (.seq (.region [qMov cF w4] 1)
.ret)
.skip)))
(.region [qMov s5 w20,
qBin bAdd .add s20 (cn 1) w21,
qMov s21 w5] 3))))))
(.seq (.region [qMov cT w4] 1)
.ret)))),false⟩
def q223:QFn:=⟨1,[.t s2],
(.seq (.region [qMov cF w2] 1)
(.seq (.region [qMov s0 w3,
qBin bEql .eql s3 (cb 110) w4,
qMov s4 w5,
gdO s5 false w6 (qMov s0 w6),
gdO s5 false w7 (qBin bEql .eql s6 (cb 103) w7),
qPick s5 cT s7 w8,
qMov s8 w9,
gdO s9 false w10 (qMov s0 w10),
gdO s9 false w11 (qBin bEql .eql s10 (cb 101) w11),
qPick s9 cT s11 w12,
qMov s12 w2] 11)
.ret)),false⟩
def q224:QFn:=⟨2,[.t s4],
(.seq (.region [qMov cF w4] 1)
(.seq (.seq (.region [qMov s0 w5] 1)
(.block 0 (.seq (.region [qBin bEql .eql s5 (cb 45) w7,
qMov s7 w6] 2)
(.cond s6 (.seq (.region [qMov s1 w8,
qBin bEql .eql s8 (cn 0) w9,
qMov s9 w4] 3)
.ret)
(.seq (.seq (.region [qBin bEql .eql s5 (cb 119) w11,
qMov s11 w10] 2)
(.cond s10 .skip
(.region [qBin bEql .eql s5 (cb 114) w12,
qMov s12 w10] 2)))
(.cond s10 (.seq (.region [qMov s1 w13,
qBin bGeq .geq s13 (cn 0) w14,
qMov s14 w15,
gdO s15 true w16 (qMov s1 w16),
gdO s15 true w17 (qBin bLss .lss s16 (cn 16) w17),
qPick s15 s17 cF w18,
qMov s18 w4] 7)
.ret)
(.seq (.seq (.region [qBin bEql .eql s5 (cb 103) w20,
qMov s20 w19] 2)
(.cond s19 .skip
(.region [qBin bEql .eql s5 (cb 101) w21,
qMov s21 w19] 2)))
(.cond s19 (.seq (.region [qMov s1 w22,
qBin bGeq .geq s22 (cm 0) w23,
qMov s23 w24,
gdO s24 true w25 (qMov s1 w25),
gdO s24 true w26 (qBin bLss .lss s25 (cn 16) w26),
qPick s24 s26 cF w27,
qMov s27 w4] 7)
.ret)
(.seq (.seq (.region [qBin bEql .eql s5 (cb 116) w29,
qMov s29 w28] 2)
(.cond s28 .skip
(.region [qBin bEql .eql s5 (cb 99) w30,
qMov s30 w28] 2)))
(.cond s28 (.seq (.region [qMov s1 w31,
qBin bGeq .geq s31 (cn 0) w32,
qMov s32 w33,
gdO s33 true w34 (qMov s1 w34),
gdO s33 true w35 (qBin bLss .lss s34 (cn 32) w35),
qPick s33 s35 cF w36,
qMov s36 w4] 7)
.ret)
(.seq (.region [qBin bEql .eql s5 (cb 98) w38,
qMov s38 w37] 2)
(.cond s37 (.seq (.region [qMov s1 w39,
qBin bGeq .geq s39 (cn 0) w40,
qMov s40 w41,
gdO s41 true w42 (qMov s1 w42),
gdO s41 true w43 (qBin bLss .lss s42 (cn 2) w43),
qPick s41 s43 cF w44,
qMov s44 w4] 7)
.ret)
(.seq (.region [qBin bEql .eql s5 (cb 102) w46,
qMov s46 w45] 2)
(.cond s45 (.seq (.region [qMov s1 w47,
qBin bGeq .geq s47 (cn 0) w48,
qMov s48 w49,
gdO s49 true w50 (qMov s1 w50),
gdO s49 true w51 (qBin bLss .lss s50 (cn 8) w51),
qPick s49 s51 cF w52,
qMov s52 w4] 7)
.ret)
(.seq (.region [qBin bEql .eql s5 (cb 105) w54,
qMov s54 w53] 2)
(.cond s53 (.seq (.region [qMov s1 w55,
qBin bGeq .geq s55 (cn 0) w56,
qMov s56 w57,
gdO s57 true w58 (qMov s1 w58),
gdO s57 true w59 (qBin bLss .lss s58 (cn 200) w59),
qPick s57 s59 cF w60,
qMov s60 w4] 7)
.ret)
.skip))))))))))))))))
(.seq (.region [qMov cT w4] 1)
.ret))),false⟩
def q225:QFn:=⟨1,[.t s2],
(.seq (.region [seqO (r_box s0 0 1) w1,
qMov (cn 0) w2] 2)
(.seq (.seq (.region [qFad 0 s1 w3,
qLd s3 w4] 2)
(.block 0 (.seq (.region [qBin bEql .eql s4 (cb 25) w6,
qMov s6 w5] 2)
(.cond s5 (.seq (.region [qFad 2 s1 w7,
qLd s7 w8,
qMov s8 w2] 3)
.ret)
(.seq (.seq (.region [qBin bEql .eql s4 (cb 26) w10,
qMov s10 w9] 2)
(.cond s9 .skip
(.region [qBin bEql .eql s4 (cb 27) w11,
qMov s11 w9] 2)))
(.cond s9 (.seq (.region [qFad 1 s1 w12,
qLd s12 w13,
qMov s13 w2] 3)
.ret)
.skip))))))
(.seq (.region [qMov (cm 0) w2] 1)
.ret))),false⟩
def q226:QFn:=⟨3,[.t s6],
(.seq (.region [seqO (r_box s0 0 3) w3,
qMov (cn 0) w6] 2)
(.seq (.seq (.region [qMov s2 w7,
qBin bLss .lss s7 (cn 0) w8,
qMov s8 w9,
gdO s9 false w10 (qMov s2 w10),
gdO s9 false w11 (qFad 2 s3 w11),
gdO s9 false w12 (qLd s11 w12),
gdO s9 false w13 (qMov s1 w13),
gdO s9 false w14 (seqO (r_indexAddr 7 s12 s13 0 14) w14),
gdO s9 false w15 (qFad 3 s14 w15),
gdO s9 false w16 (qLd s15 w16),
gdO s9 false w17 (seqO (r_len s16 0 17) w17),
gdO s9 false w18 (qBin bGeq .geq s10 s17 w18),
qPick s9 cT s18 w19] 13)
(.cond s19 (.seq (.region [qMov (cm 0) w6] 1)
.ret)
.skip))
(.seq (.region [qFad 2 s3 w20,
qLd s20 w21,
qMov s1 w22,
seqO (r_indexAddr 7 s21 s22 0 23) w23,
qFad 3 s23 w24,
qLd s24 w25,
qMov s2 w26,
seqO (r_indexAddr 2 s25 s26 0 27) w27,
qFad 1 s27 w28,
qLd s28 w29,
qMov s29 w6] 11)
.ret))),false⟩
def q227:QFn:=⟨2,[.t s4],
(.seq (.region [seqO (r_box s0 0 2) w2,
qMov (cb 0) w4] 2)
(.seq (.seq (.region [qMov s1 w5,
qBin bLss .lss s5 (cn 0) w6] 2)
(.cond s6 (.seq (.region [qMov (cb 0) w4] 1)
.ret)
.skip))
(.seq (.region [qFad 0 s2 w7,
qLd s7 w8,
qMov s1 w9,
seqO (r_indexAddr 4 s8 s9 0 10) w10,
qFad 0 s10 w11,
qLd s11 w12,
qMov s12 w4] 7)
.ret))),false⟩
def q228:QFn:=⟨1,[.t s2],
(.seq (.region [seqO (r_box s0 0 1) w1,
qMov cF w2] 2)
(.seq (.region [qFad 0 s1 w3,
qLd s3 w4,
qBin bEql .eql s4 (cb 1) w5,
qMov s5 w6,
gdO s6 false w7 (qFad 0 s1 w7),
gdO s6 false w8 (qLd s7 w8),
gdO s6 false w9 (qBin bEql .eql s8 (cb 2) w9),
qPick s6 cT s9 w10,
qMov s10 w11,
gdO s11 false w12 (qFad 0 s1 w12),
gdO s11 false w13 (qLd s12 w13),
gdO s11 false w14 (qBin bEql .eql s13 (cb 4) w14),
qPick s11 cT s14 w15,
qMov s15 w2] 14)
.ret)),false⟩
def q231:QFn:=⟨2,[.t s4],
(.seq (.region [seqO (r_box s0 0 2) w2,
qMov cF w4] 2)
(.seq (.region [qFad 2 s2 w6,
qLd s6 w7,
qMov s1 w8,
seqO (r_indexAddr 7 s7 s8 0 9) w9,
seqO (r_load 7 true s9 0 10) w10,
seqO (r_alloc [(.d (.sc (.string ⟨#[]⟩))),i0,i0,oF,oF,oF,oF] 0 5) w5,
seqO (r_store 7 s5 s10 0 0) wN] 7)
(.seq (.draw [⟨(r_fieldAddr 2 s5 0 11),w11,0⟩,
⟨(r_load 1 false s11 0 12),w12,1⟩,
⟨(r_bin .eql s12 (cm 0) 0 13),w13,3⟩,
⟨(r_mov s13 0 14),w14,7⟩,
⟨gdR s14 true (r_fieldAddr 1 s5 0 15),w15,15⟩,
⟨gdR s14 true (r_load 1 false s15 0 16),w16,31⟩,
⟨gdR s14 true (r_bin .eql s16 (cn 0) 0 17),w17,63⟩,
⟨gdR s14 true (r_mov s17 0 18),w18,127⟩,
⟨gdR s18 false (r_fieldAddr 1 s5 0 19),w19,255⟩,
⟨gdR s18 false (r_load 1 false s19 0 20),w20,511⟩,
⟨gdR s18 false (r_bin .eql s20 (cn 1) 0 21),w21,1023⟩,
⟨gdR s18 false (r_mov s21 0 22),w22,2047⟩,
⟨gdR s22 true (r_fieldAddr 0 s2 0 23),w23,4095⟩,
⟨gdR s22 true (r_load 1 false s23 0 24),w24,8191⟩,
⟨gdR s22 true (r_fieldAddr 3 s5 0 25),w25,4095⟩,
⟨gdR s22 true (r_load 1 false s25 0 26),w26,20479⟩,
⟨gdR s22 true (r_indexAddr 2 s26 (cn 0) 0 27),w27,53247⟩,
⟨gdR s22 true (r_fieldAddr 1 s27 0 28),w28,118783⟩,
⟨gdR s22 true (r_load 1 false s28 0 29),w29,249855⟩,
⟨gdR s22 true (r_indexAddr 4 s24 s29 0 30),w30,524287⟩,
⟨gdR s22 true (r_load 4 true s30 0 31),w31,1048575⟩,
⟨gdR s22 true (r_callF 228 [s31] 0 32),w32,2097151⟩,
⟨gdR s18 false (r_pick s22 s32 cF 0 33),w33,4194303⟩,
⟨gdR s14 true (r_pick s18 cT s33 0 34),w34,8388607⟩,
⟨(r_pick s14 s34 cF 0 35),w35,16777215⟩,
⟨(r_mov s35 0 4),w4,33554431⟩] 26)
.ret))),false⟩
def q232:QFn:=⟨3,[.t s6,.t s7],
(.seq (.region [seqO (r_box s0 0 3) w3,
seqO (r_box s2 0 5) w5,
qMov (cK oF) w6,
qMov (cn 0) w7] 4)
(.seq (.seq (.region [qFad 0 s5 w11,
qLd s11 w12,
qBin bEql .eql s12 (cb 24) w13] 3)
(.cond s13 (.seq (.region [seqO (r_load 3 true s3 0 14) w14,
qMov s1 w15,
qFad 1 s5 w16,
qLd s16 w17,
seqO (r_callF 226 [s14,s15,s17] 0 18) w18,
qMov (cK oF) w6,
qMov s18 w7] 7)
.ret)
.skip))
(.seq (.region [qMov (cK oF) w8] 1)
(.seq (.seq (.region [seqO (r_load 4 true s5 0 19) w19,
seqO (r_callF 225 [s19] 0 20) w20,
qMov s20 w9] 3)
(.seq (.region [qMov s9 w21,
qBin bGeq .geq s21 (cn 0) w22] 2)
(.cond s22 (.seq (.region [qMov (cn 0) w10] 1)
(.block 0 (.loop (.seq (.seq (.region [qMov s10 w23,
qFad 2 s3 w24,
qLd s24 w25,
qMov s9 w26,
seqO (r_indexAddr 7 s25 s26 0 27) w27,
qFad 1 s27 w28,
qLd s28 w29,
qBin bLss .lss s23 s29 w30] 8)
(.cond s30 .skip
(.exit 0)))
(.seq (.block 1 (.region [qMov s8 w33,
qFad 2 s3 w34,
qLd s34 w35,
qMov s9 w36,
seqO (r_indexAddr 7 s35 s36 0 37) w37,
qFad 3 s37 w38,
qLd s38 w39,
qMov s10 w40,
seqO (r_indexAddr 2 s39 s40 0 41) w41,
qFad 1 s41 w42,
qLd s42 w43,
seqO (r_buildSlice 1 1 [di] [(0,s43)] 0 44) w44,
seqO (r_append 1 8 s33 s44 0 45) w45,
qMov s45 w8] 14))
(.region [qMov s10 w31,
qBin bAdd .add s31 (cn 1) w32,
qMov s32 w10] 3))))))
.skip)))
(.seq (.region [qMov s8 w46,
qMov s46 w6,
qMov (cm 0) w7] 3)
.ret))))),false⟩
def q233:QFn:=⟨2,[.cell s4 4 true],
(.seq (.region [seqO (r_box s0 0 2) w2,
seqO (r_alloc [oF,oF,i0,i0] 0 4) w4] 2)
(.seq (.draw [⟨(r_load 3 true s2 0 22),w22,0⟩,
⟨(r_fieldAddr 2 s2 0 23),w23,0⟩,
⟨(r_load 1 false s23 0 24),w24,2⟩,
⟨(r_mov s1 0 25),w25,0⟩,
⟨(r_indexAddr 7 s24 s25 0 26),w26,14⟩,
⟨(r_load 7 true s26 0 27),w27,30⟩,
⟨(r_build [oF,oF,oF,(.d (.sc (.string ⟨#[]⟩))),i0,i0,oF,oF,oF,oF] [(0,3,s22),(3,7,s27)] 0 28),w28,63⟩,
⟨(r_alloc [oF,oF,oF,(.d (.sc (.string ⟨#[]⟩))),i0,i0,oF,oF,oF,oF] 0 5),w5,0⟩,
⟨(r_store 10 s5 s28 0 0),wN,255⟩] 9)
(.seq (.region [qFad 3 s5 w29,
qFad 4 s29 w30,
qLd s30 w31,
qMov s31 w6] 4)
(.seq (.region [qMov s6 w33,
seqO (r_call 260 [s33] 0 34) w34,
qMov s34 w32,
seqO (r_extract s32 0 0 35) w35,
seqO (r_extract s32 1 0 36) w36,
qMov s35 w7,
qMov s36 w8] 7)
(.seq (.seq (.region [qMov s8 w37,
qBin bNeq .neq s37 (cn 0) w38] 2)
(.cond s38 (.seq (.region [seqO (r_build [oF,oF,i0,i0] [(2,1,(cm 0)),(3,1,(cn 12))] 0 39) w39,
seqO (r_store 4 s4 s39 0 0) wN] 2)
.ret)
.skip))
(.seq (.seq (.region [qMov s1 w40,
qBin bEql .eql s40 (cn 0) w41,
qMov s41 w42,
gdO s42 true w43 (qFad 3 s5 w43),
gdO s42 true w44 (qFad 1 s43 w44),
gdO s42 true w45 (qLd s44 w45),
gdO s42 true w46 (qBin bGtr .gtr s45 (cn 0) w46),
gdO s42 true w47 (qMov s46 w47),
gdO s47 false w48 (qFad 3 s5 w48),
gdO s47 false w49 (qFad 2 s48 w49),
gdO s47 false w50 (qLd s49 w50),
gdO s47 false w51 (qBin bGeq .geq s50 (cn 0) w51),
gdO s42 true w52 (qPick s47 cT s51 w52),
qPick s42 s52 cF w53] 14)
(.cond s53 (.seq (.region [seqO (r_build [oF,oF,i0,i0] [(2,1,(cm 0)),(3,1,(cn 30))] 0 54) w54,
seqO (r_store 4 s4 s54 0 0) wN] 2)
.ret)
.skip))
(.seq (.seq (.region [qMov s6 w55,
seqO (r_len s55 0 56) w56,
qMov (cn 0) w57] 3)
(.block 0 (.loop (.seq (.region [qBin bLss .lss s57 s56 w58] 1)
(.seq (.cond s58 .skip
(.exit 0))
(.seq (.block 1 (.seq (.region [qMov s57 w59,
seqO (r_indexAddr 4 s55 s57 0 60) w60,
seqO (r_load 4 true s60 0 61) w61,
seqO (r_alloc [b0,i0,i0,i0] 0 10) w10,
qMov s59 w9,
seqO (r_store 4 s10 s61 0 0) wN] 6)
(.block 2 (.seq (.region [seqO (r_load 10 true s5 0 63) w63,
seqO (r_load 4 true s10 0 64) w64,
seqO (r_callF 261 [s63,s64] 0 65) w65,
qBin bNeq .neq s65 (cn 0) w66,
qMov s66 w62] 5)
(.cond s62 (.seq (.region [qMov s9 w67,
seqO (r_build [oF,oF,i0,i0] [(2,1,s67),(3,1,(cn 16))] 0 68) w68,
seqO (r_store 4 s4 s68 0 0) wN] 3)
.ret)
(.seq (.region [qMov s7 w70,
qMov s9 w71,
seqO (r_indexAddr 1 s70 s71 0 72) w72,
qLd s72 w73,
seqO (r_un .not s73 0 74) w74,
qMov s74 w69] 6)
(.cond s69 (.seq (.region [qMov s9 w75,
seqO (r_build [oF,oF,i0,i0] [(2,1,s75),(3,1,(cn 6))] 0 76) w76,
seqO (r_store 4 s4 s76 0 0) wN] 3)
.ret)
(.seq (.region [seqO (r_load 10 true s5 0 78) w78,
seqO (r_load 4 true s10 0 79) w79,
seqO (r_callF 262 [s78,s79] 0 80) w80,
seqO (r_un .not s80 0 81) w81,
qMov s81 w77] 5)
(.cond s77 (.seq (.region [qMov s9 w82,
seqO (r_build [oF,oF,i0,i0] [(2,1,s82),(3,1,(cn 30))] 0 83) w83,
seqO (r_store 4 s4 s83 0 0) wN] 3)
.ret)
.skip)))))))))
(.region [qBin bAdd .add s57 (cn 1) w84,
qMov s84 w57] 2)))))))
(.seq (.region [seqO (r_load 10 true s5 0 86) w86,
seqO (r_call 263 [s86] 0 87) w87,
qMov s87 w85,
seqO (r_extract s85 0 0 88) w88,
seqO (r_extract s85 1 0 89) w89,
qMov s88 w11,
qMov s89 w12] 7)
(.seq (.seq (.region [qMov s12 w90,
seqO (r_un .not s90 0 91) w91] 2)
(.cond s91 (.seq (.region [seqO (r_build [oF,oF,i0,i0] [(2,1,(cm 0)),(3,1,(cn 36))] 0 92) w92,
seqO (r_store 4 s4 s92 0 0) wN] 2)
.ret)
.skip))
(.seq (.region [qMov s6 w94,
qFad 3 s5 w95,
qFad 1 s95 w96,
qLd s96 w97,
qFad 3 s5 w98,
qFad 3 s98 w99,
qLd s99 w100,
seqO (r_len s100 0 101) w101,
seqO (r_call 264 [s94,s97,s101] 0 102) w102,
qMov s102 w93,
seqO (r_extract s93 0 0 103) w103,
seqO (r_extract s93 1 0 104) w104,
qMov s103 w13,
qMov s104 w8] 14)
(.seq (.seq (.region [qMov s8 w105,
qBin bNeq .neq s105 (cn 0) w106] 2)
(.cond s106 (.seq (.region [qMov s8 w107,
seqO (r_build [oF,oF,i0,i0] [(2,1,(cm 0)),(3,1,s107)] 0 108) w108,
seqO (r_store 4 s4 s108 0 0) wN] 3)
.ret)
.skip))
(.seq (.seq (.region [qMov s6 w109,
seqO (r_len s109 0 110) w110,
qMov (cn 0) w111] 3)
(.block 3 (.loop (.seq (.region [qBin bLss .lss s111 s110 w112] 1)
(.seq (.cond s112 .skip
(.exit 3))
(.seq (.block 4 (.seq (.region [qMov s111 w113,
seqO (r_indexAddr 4 s109 s111 0 114) w114,
seqO (r_load 4 true s114 0 115) w115,
seqO (r_alloc [b0,i0,i0,i0] 0 15) w15,
qMov s113 w14,
seqO (r_store 4 s15 s115 0 0) wN] 6)
(.seq (.region [seqO (r_load 4 true s15 0 117) w117,
seqO (r_call 265 [s117] 0 118) w118,
qMov s118 w116,
seqO (r_extract s116 0 0 119) w119,
seqO (r_extract s116 1 0 120) w120,
seqO (r_extract s116 2 0 121) w121,
qMov s119 w16,
qMov s120 w17,
qMov s121 w18] 9)
(.seq (.region [qMov s16 w122,
seqO (r_len s122 0 123) w123,
qMov (cn 0) w124] 3)
(.block 5 (.loop (.seq (.region [qBin bLss .lss s124 s123 w125] 1)
(.seq (.cond s125 .skip
(.exit 5))
(.seq (.block 6 (.seq (.region [seqO (r_indexAddr 1 s122 s124 0 126) w126,
qLd s126 w127,
qMov s127 w20] 3)
(.seq (.region [qMov s18 w128,
qBin bNeq .neq s128 (cn 0) w129,
qMov s129 w130,
gdO s130 false w131 (qMov s13 w131),
gdO s130 false w132 (qMov s14 w132),
gdO s130 false w133 (seqO (r_indexAddr 1 s131 s132 0 133) w133),
gdO s130 false w134 (qLd s133 w134),
gdO s130 false w135 (qMov s20 w135),
gdO s130 false w136 (qBin (bGen .shr) .shr s134 s135 w136),
gdO s130 false w137 (qBin (bGen .and) .and s136 (cu 1) w137),
gdO s130 false w138 (qBin bEql .eql s137 (cu 0) w138),
qPick s130 cT s138 w139] 12)
(.cond s139 (.seq (.region [qMov s14 w140,
seqO (r_build [oF,oF,i0,i0] [(2,1,s140),(3,1,(cn 38))] 0 141) w141,
seqO (r_store 4 s4 s141 0 0) wN] 3)
.ret)
.skip))))
(.region [qBin bAdd .add s124 (cn 1) w142,
qMov s142 w124] 2))))))))))
(.region [qBin bAdd .add s111 (cn 1) w143,
qMov s143 w111] 2)))))))
(.seq (.region [seqO (r_alloc [oF,oF,i0,i0] 0 21) w21] 1)
(.seq (.region [qMov s11 w145,
seqO (r_call 266 [s145] 0 146) w146,
qMov s146 w144,
seqO (r_extract s144 0 0 147) w147,
seqO (r_extract s144 1 0 148) w148,
qFad 0 s21 w149,
seqO (r_store 1 s149 s147 0 0) wN,
qFad 3 s21 w150,
seqO (r_store 1 s150 s148 0 0) wN] 9)
(.seq (.seq (.region [qFad 3 s21 w151,
qLd s151 w152,
qBin bEql .eql s152 (cn 0) w153] 3)
(.cond s153 (.region [qMov s13 w155,
seqO (r_call 266 [s155] 0 156) w156,
qMov s156 w154,
seqO (r_extract s154 0 0 157) w157,
seqO (r_extract s154 1 0 158) w158,
qFad 1 s21 w159,
seqO (r_store 1 s159 s157 0 0) wN,
qFad 3 s21 w160,
seqO (r_store 1 s160 s158 0 0) wN] 9)
.skip))
(.seq (.region [seqO (r_load 4 true s21 0 161) w161,
seqO (r_store 4 s4 s161 0 0) wN] 2)
.ret)))))))))))))))),false⟩
def q234:QFn:=⟨2,[.t s4],
(.seq (.region [qMov cF w4] 1)
(.seq (.seq (.region [qMov s0 w6,
seqO (r_len s6 0 7) w7,
qMov s1 w8,
seqO (r_len s8 0 9) w9,
qBin bNeq .neq s7 s9 w10] 5)
(.cond s10 (.seq (.region [qMov cF w4] 1)
.ret)
.skip))
(.seq (.seq (.region [qMov s0 w11,
seqO (r_len s11 0 12) w12,
qMov (cn 0) w13] 3)
(.block 0 (.loop (.seq (.region [qBin bLss .lss s13 s12 w14] 1)
(.seq (.cond s14 .skip
(.exit 0))
(.seq (.block 1 (.seq (.region [qMov s13 w15,
qMov s15 w5] 2)
(.seq (.draw [⟨(r_mov s0 0 16),w16,0⟩,
⟨(r_mov s5 0 17),w17,0⟩,
⟨(r_indexAddr 2 s16 s17 0 18),w18,3⟩,
⟨(r_load 2 true s18 0 19),w19,7⟩,
⟨(r_mov s1 0 20),w20,0⟩,
⟨(r_mov s5 0 21),w21,0⟩,
⟨(r_indexAddr 2 s20 s21 0 22),w22,48⟩,
⟨(r_load 2 true s22 0 23),w23,112⟩,
⟨(r_eqA true 2 [(0,1),(1,1)] s19 s23 0 24),w24,255⟩] 9)
(.cond s24 (.seq (.region [qMov cF w4] 1)
.ret)
.skip))))
(.region [qBin bAdd .add s13 (cn 1) w25,
qMov s25 w13] 2)))))))
(.seq (.region [qMov cT w4] 1)
.ret)))),false⟩
def q235:QFn:=⟨2,[.t s4],
(.seq (.region [qMov (cn 0) w4] 1)
(.seq (.seq (.region [qMov s0 w6,
seqO (r_len s6 0 7) w7,
qMov (cn 0) w8] 3)
(.block 0 (.loop (.seq (.region [qBin bLss .lss s8 s7 w9] 1)
(.seq (.cond s9 .skip
(.exit 0))
(.seq (.block 1 (.seq (.region [qMov s8 w10,
qMov s10 w5] 2)
(.seq (.region [qMov s1 w11,
qMov s0 w12,
qMov s5 w13,
seqO (r_indexAddr 1 s12 s13 0 14) w14,
qLd s14 w15,
seqO (r_callv s11 [s15] 0 16) w16] 6)
(.cond s16 (.seq (.region [qMov s5 w17,
qMov s17 w4] 2)
.ret)
.skip))))
(.region [qBin bAdd .add s8 (cn 1) w18,
qMov s18 w8] 2)))))))
(.seq (.region [qMov (cm 0) w4] 1)
.ret))),true⟩
def q236:QFn:=⟨1,[.t s2],
(.seq (.region [qMov (cu 0) w2] 1)
(.seq (.region [qMov s0 w3,
qBin bAdd .add s3 (cn 1) w4,
seqO (r_conv .u64 s4 0 5) w5,
qBin (bGen .mul) .mul (cu 16777216) s5 w6,
qMov s6 w2] 5)
.ret)),false⟩
def q237:QFn:=⟨1,[.t s2],
(.seq (.region [qMov cF w2] 1)
(.seq (.region [qMov s0 w3,
qBin bGeq .geq s3 (cu 256) w4,
qMov s4 w5,
gdO s5 true w6 (qMov s0 w6),
gdO s5 true w7 (qBin bLss .lss s6 (cu 8448) w7),
qPick s5 s7 cF w8,
qMov s8 w2] 7)
.ret)),false⟩
def q238:QFn:=⟨1,[.t s2],
(.seq (.region [qMov cF w2] 1)
(.seq (.region [qMov s0 w3,
qBin bEql .eql s3 (cu 0) w4,
qMov s4 w5,
gdO s5 false w6 (qMov s0 w6),
gdO s5 false w7 (qBin (bGen .rem) .rem s6 (cu 8) w7),
gdO s5 false w8 (qBin bEql .eql s7 (cu 0) w8),
gdO s5 false w9 (qMov s8 w9),
gdO s9 true w10 (qMov s0 w10),
gdO s9 true w11 (qBin bGeq .geq s10 (cu 65536) w11),
gdO s5 false w12 (qPick s9 s11 cF w12),
qPick s5 cT s12 w13,
qMov s13 w2] 12)
.ret)),false⟩
def q239:QFn:=⟨3,[.cell s6 2 true,.t s7],
(.seq (.region [seqO (r_box s0 0 3) w3,
seqO (r_alloc [u0,oF] 0 6) w6,
qMov (cn 0) w7] 3)
(.seq (.region [seqO (r_load 2 true s3 0 13) w13,
qMov s1 w14,
qMov s2 w15,
seqO (r_len s15 0 16) w16,
seqO (r_callF 143 [s13,s14,s16] 0 17) w17,
qMov s17 w12,
seqO (r_extract s12 0 0 18) w18,
seqO (r_extract s12 1 0 19) w19,
qMov s18 w8,
qMov s19 w9] 10)
(.seq (.seq (.region [qMov s9 w20,
qBin bNeq .neq s20 (cn 0) w21] 2)
(.cond s21 (.seq (.region [seqO (r_build [u0,oF] [] 0 22) w22,
qMov s9 w23,
seqO (r_store 2 s6 s22 0 0) wN,
qMov s23 w7] 4)
.ret)
.skip))
(.seq (.seq (.region [qMov s8 w24,
seqO (r_un .not s24 0 25) w25] 2)
(.cond s25 (.seq (.region [seqO (r_build [u0,oF] [] 0 26) w26,
seqO (r_store 2 s6 s26 0 0) wN,
qMov (cn 16) w7] 3)
.ret)
.skip))
(.seq (.region [seqO (r_load 2 true s3 0 28) w28,
qMov s1 w29,
qMov s2 w30,
seqO (r_len s30 0 31) w31,
seqO (r_callF 215 [s28,s29,s31] 0 32) w32,
qMov s32 w27,
seqO (r_extract s27 0 0 33) w33,
seqO (r_extract s27 1 0 34) w34,
qMov s33 w10,
qMov s34 w11] 10)
(.seq (.region [qFad 1 s3 w35,
qLd s35 w36,
seqO (r_clone 1 1 s36 1 37) w37,
qFad 1 s3 w38,
seqO (r_store 1 s38 s37 0 0) wN] 5)
(.seq (.region [qFad 1 s3 w39,
qLd s39 w40,
qMov s10 w41,
seqO (r_slice 1 s40 (some s41) none none 0 42) w42,
qMov s2 w43,
seqO (r_copy 1 s42 s43 0 44) w44] 6)
(.seq (.region [seqO (r_load 2 true s3 0 45) w45,
seqO (r_store 2 s6 s45 0 0) wN,
qMov (cn 0) w7] 3)
.ret)))))))),false⟩
def q240:QFn:=⟨1,[.t s2],
(.seq (.region [seqO (r_box s0 0 1) w1,
qMov cF w2] 2)
(.seq (.seq (.region [qFad 0 s1 w12,
qLd s12 w13,
seqO (r_callF 191 [s13] 0 14) w14,
qBin bNeq .neq s14 (cn 0) w15,
qMov s15 w16,
gdO s16 false w17 (qFad 1 s1 w17),
gdO s16 false w18 (qLd s17 w18),
gdO s16 false w19 (seqO (r_len s18 0 19) w19),
gdO s16 false w20 (qBin bGtr .gtr s19 (cn 32) w20),
qPick s16 cT s20 w21,
qMov s21 w22,
gdO s22 false w23 (qFad 2 s1 w23),
gdO s22 false w24 (qLd s23 w24),
gdO s22 false w25 (seqO (r_len s24 0 25) w25),
gdO s22 false w26 (qBin bEql .eql s25 (cn 0) w26),
qPick s22 cT s26 w27,
qMov s27 w28,
gdO s28 false w29 (qFad 2 s1 w29),
gdO s28 false w30 (qLd s29 w30),
gdO s28 false w31 (seqO (r_len s30 0 31) w31),
gdO s28 false w32 (qBin bGtr .gtr s31 (cn 32) w32),
qPick s28 cT s32 w33] 22)
(.cond s33 (.seq (.region [qMov cF w2] 1)
.ret)
.skip))
(.seq (.seq (.region [qFad 0 s1 w34,
qLd s34 w35,
seqO (r_len s35 0 36) w36,
qMov (cn 0) w37] 4)
(.block 0 (.loop (.seq (.region [qBin bLss .lss s37 s36 w38] 1)
(.seq (.cond s38 .skip
(.exit 0))
(.seq (.block 1 (.seq (.region [qMov s37 w39,
qMov s39 w3] 2)
(.seq (.region [qFad 0 s1 w41,
qLd s41 w42,
qMov s3 w43,
seqO (r_callF 132 [s42,s43] 0 44) w44,
qMov s44 w40,
seqO (r_extract s40 0 0 45) w45,
seqO (r_extract s40 1 0 46) w46,
seqO (r_extract s40 2 0 47) w47,
qMov s45 w4,
qMov s46 w5,
qMov s47 w6] 11)
(.seq (.region [qMov s6 w48,
qBin bNeq .neq s48 (cn 0) w49] 2)
(.cond s49 (.seq (.region [qMov cF w2] 1)
.ret)
.skip)))))
(.region [qBin bAdd .add s37 (cn 1) w50,
qMov s50 w37] 2)))))))
(.seq (.seq (.region [qFad 1 s1 w51,
qLd s51 w52,
seqO (r_len s52 0 53) w53,
qMov (cn 0) w54] 4)
(.block 2 (.loop (.seq (.region [qBin bLss .lss s54 s53 w55] 1)
(.seq (.cond s55 .skip
(.exit 2))
(.seq (.block 3 (.seq (.region [seqO (r_indexAddr 1 s52 s54 0 56) w56,
qLd s56 w57,
qMov s57 w8] 3)
(.seq (.region [qMov s8 w58,
seqO (r_lenS s58 0 59) w59,
qBin bGtr .gtr s59 (cn 64) w60] 3)
(.cond s60 (.seq (.region [qMov cF w2] 1)
.ret)
.skip))))
(.region [qBin bAdd .add s54 (cn 1) w61,
qMov s61 w54] 2)))))))
(.seq (.region [seqO (r_mkSet 0 62) w62,
qMov s62 w9] 2)
(.seq (.seq (.region [qFad 2 s1 w63,
qLd s63 w64,
seqO (r_len s64 0 65) w65,
qMov (cn 0) w66] 4)
(.block 4 (.loop (.seq (.region [qBin bLss .lss s66 s65 w67] 1)
(.seq (.cond s67 .skip
(.exit 4))
(.seq (.block 5 (.seq (.region [seqO (r_indexAddr 7 s64 s66 0 68) w68,
seqO (r_load 7 true s68 0 69) w69,
seqO (r_alloc [(.d (.sc (.string ⟨#[]⟩))),i0,i0,oF,oF,oF,oF] 0 11) w11,
seqO (r_store 7 s11 s69 0 0) wN] 4)
(.seq (.seq (.region [qMov s9 w70,
qFad 0 s11 w71,
qLd s71 w72,
seqO (r_hasK s70 s72 0 73) w73,
qMov s73 w74,
gdO s74 false w75 (qFad 0 s1 w75),
gdO s74 false w76 (qLd s75 w76),
gdO s74 false w77 (seqO (r_load 7 true s11 0 77) w77),
gdO s74 false w78 (seqO (r_callF 267 [s76,s77] 0 78) w78),
gdO s74 false w79 (seqO (r_un .not s78 0 79) w79),
qPick s74 cT s79 w80] 11)
(.cond s80 (.seq (.region [qMov cF w2] 1)
.ret)
.skip))
(.region [qMov s9 w81,
qFad 0 s11 w82,
qLd s82 w83,
seqO (r_addK s81 s83 0 0) wN] 4))))
(.region [qBin bAdd .add s66 (cn 1) w84,
qMov s84 w66] 2)))))))
(.seq (.region [qMov cT w2] 1)
.ret))))))),false⟩
def q241:QFn:=⟨2,[],
(.seq (.region [qMov s0 w6,
qMov s1 w7,
seqO (r_len s7 0 8) w8,
seqO (r_call 242 [s6,s8] 0 9) w9] 4)
(.seq (.region [qMov s1 w10,
seqO (r_len s10 0 11) w11,
qMov (cn 0) w12] 3)
(.block 0 (.loop (.seq (.region [qBin bLss .lss s12 s11 w13] 1)
(.seq (.cond s13 .skip
(.exit 0))
(.seq (.block 1 (.seq (.region [seqO (r_indexAddr 4 s10 s12 0 14) w14,
seqO (r_load 4 true s14 0 15) w15,
seqO (r_alloc [b0,i0,i0,oF] 0 5) w5,
seqO (r_store 4 s5 s15 0 0) wN] 4)
(.seq (.draw [⟨(r_mov s0 0 16),w16,0⟩,
⟨(r_mov s0 0 17),w17,0⟩,
⟨(r_nilCheck s17 0 18),w18,2⟩,
⟨(r_fieldAddr 0 s18 0 19),w19,6⟩,
⟨(r_load 1 false s19 0 20),w20,14⟩,
⟨(r_fieldAddr 0 s5 0 21),w21,0⟩,
⟨(r_load 1 false s21 0 22),w22,32⟩,
⟨(r_buildSlice 1 1 [db] [(0,s22)] 0 23),w23,96⟩,
⟨(r_append 1 1 s20 s23 0 24),w24,254⟩,
⟨(r_nilCheck s16 0 25),w25,511⟩,
⟨(r_fieldAddr 0 s25 0 26),w26,1023⟩,
⟨(r_store 1 s26 s24 0 0),wN,2047⟩] 12)
(.seq (.region [qFad 0 s5 w27,
qLd s27 w28] 2)
(.block 2 (.seq (.seq (.region [qBin bEql .eql s28 (cb 4) w30,
qMov s30 w29] 2)
(.cond s29 .skip
(.region [qBin bEql .eql s28 (cb 7) w31,
qMov s31 w29] 2)))
(.cond s29 (.region [qMov s0 w32,
qFad 1 s5 w33,
qLd s33 w34,
seqO (r_call 242 [s32,s34] 0 35) w35] 4)
(.seq (.region [qBin bEql .eql s28 (cb 6) w37,
qMov s37 w36] 2)
(.cond s36 (.seq (.region [qMov s0 w38,
qFad 1 s5 w39,
qLd s39 w40,
seqO (r_call 242 [s38,s40] 0 41) w41] 4)
(.region [qMov s0 w42,
qFad 2 s5 w43,
qLd s43 w44,
seqO (r_call 242 [s42,s44] 0 45) w45] 4))
(.seq (.region [qBin bEql .eql s28 (cb 5) w47,
qMov s47 w46] 2)
(.cond s46 (.region [qMov s0 w48,
qFad 3 s5 w49,
qLd s49 w50,
seqO (r_call 268 [s48,s50] 0 51) w51] 4)
.skip)))))))))))
(.region [qBin bAdd .add s12 (cn 1) w52,
qMov s52 w12] 2)))))))),true⟩
def q242:QFn:=⟨2,[],
(.draw [⟨(r_mov s0 0 4),w4,0⟩,
⟨(r_mov s0 0 5),w5,0⟩,
⟨(r_nilCheck s5 0 6),w6,2⟩,
⟨(r_fieldAddr 0 s6 0 7),w7,6⟩,
⟨(r_load 1 false s7 0 8),w8,14⟩,
⟨(r_mov s1 0 9),w9,0⟩,
⟨(r_conv .u64 s9 0 10),w10,32⟩,
⟨(r_call 269 [s10] 0 11),w11,96⟩,
⟨(r_append 1 1 s8 s11 0 12),w12,254⟩,
⟨(r_nilCheck s4 0 13),w13,511⟩,
⟨(r_fieldAddr 0 s13 0 14),w14,1023⟩,
⟨(r_store 1 s14 s12 0 0),wN,2047⟩] 12),true⟩
def q243:QFn:=⟨2,[],
(.seq (.region [qMov s0 w4,
qMov s1 w5,
seqO (r_lenS s5 0 6) w6,
seqO (r_call 242 [s4,s6] 0 7) w7] 4)
(.region [qMov s0 w8,
qMov s0 w9,
seqO (r_nilCheck s9 0 10) w10,
qFad 0 s10 w11,
qLd s11 w12,
qMov s1 w13,
seqO (r_append 1 1 s12 s13 0 14) w14,
seqO (r_nilCheck s8 0 15) w15,
qFad 0 s15 w16,
seqO (r_store 1 s16 s14 0 0) wN] 10)),true⟩
def q244:QFn:=⟨2,[.t s4],
(.seq (.region [seqO (r_box s1 0 3) w3,
qMov (cn 0) w4] 2)
(.seq (.region [qMov s0 w13,
qFad 0 s3 w14,
qLd s14 w15,
seqO (r_call 243 [s13,s15] 0 16) w16] 4)
(.seq (.region [qMov s0 w17,
qFad 1 s3 w18,
qLd s18 w19,
seqO (r_call 242 [s17,s19] 0 20) w20] 4)
(.seq (.draw [⟨(r_mov s0 0 21),w21,0⟩,
⟨(r_mov s0 0 22),w22,0⟩,
⟨(r_nilCheck s22 0 23),w23,2⟩,
⟨(r_fieldAddr 0 s23 0 24),w24,6⟩,
⟨(r_load 1 false s24 0 25),w25,14⟩,
⟨(r_fieldAddr 2 s3 0 26),w26,0⟩,
⟨(r_load 1 false s26 0 27),w27,32⟩,
⟨(r_call 270 [s27] 0 28),w28,96⟩,
⟨(r_append 1 1 s25 s28 0 29),w29,254⟩,
⟨(r_nilCheck s21 0 30),w30,511⟩,
⟨(r_fieldAddr 0 s30 0 31),w31,1023⟩,
⟨(r_store 1 s31 s29 0 0),wN,2047⟩] 12)
(.seq (.region [qMov s0 w32,
qFad 3 s3 w33,
qLd s33 w34,
seqO (r_call 268 [s32,s34] 0 35) w35] 4)
(.seq (.region [qMov s0 w36,
qFad 4 s3 w37,
qLd s37 w38,
seqO (r_len s38 0 39) w39,
seqO (r_call 242 [s36,s39] 0 40) w40] 5)
(.seq (.seq (.region [qFad 4 s3 w41,
qLd s41 w42,
seqO (r_len s42 0 43) w43,
qMov (cn 0) w44] 4)
(.block 0 (.loop (.seq (.region [qBin bLss .lss s44 s43 w45] 1)
(.seq (.cond s45 .skip
(.exit 0))
(.seq (.block 1 (.seq (.region [seqO (r_indexAddr 4 s42 s44 0 46) w46,
seqO (r_load 4 true s46 0 47) w47,
seqO (r_alloc [b0,i0,i0,i0] 0 6) w6,
seqO (r_store 4 s6 s47 0 0) wN] 4)
(.seq (.region [seqO (r_load 4 true s6 0 49) w49,
seqO (r_call 271 [s49] 0 50) w50,
qMov s50 w48,
seqO (r_extract s48 0 0 51) w51,
seqO (r_extract s48 1 0 52) w52,
qMov s51 w7,
qMov s52 w8] 7)
(.seq (.seq (.region [qMov s8 w53,
qBin bNeq .neq s53 (cn 0) w54] 2)
(.cond s54 (.seq (.region [qMov s8 w55,
qMov s55 w4] 2)
.ret)
.skip))
(.region [qMov s0 w56,
qMov s0 w57,
seqO (r_nilCheck s57 0 58) w58,
qFad 0 s58 w59,
qLd s59 w60,
qMov s7 w61,
seqO (r_append 1 1 s60 s61 0 62) w62,
seqO (r_nilCheck s56 0 63) w63,
qFad 0 s63 w64,
seqO (r_store 1 s64 s62 0 0) wN] 10)))))
(.region [qBin bAdd .add s44 (cn 1) w65,
qMov s65 w44] 2)))))))
(.seq (.seq (.region [qFad 5 s3 w66,
qLd s66 w67,
qFad 6 s3 w68,
qLd s68 w69,
seqO (r_buildSlice 1 2 [(.sl [])] [(0,s67),(1,s69)] 0 70) w70,
seqO (r_len s70 0 71) w71,
qMov (cn 0) w72] 7)
(.block 2 (.loop (.seq (.region [qBin bLss .lss s72 s71 w73] 1)
(.seq (.cond s73 .skip
(.exit 2))
(.seq (.block 3 (.seq (.region [seqO (r_indexAddr 1 s70 s72 0 74) w74,
qLd s74 w75,
qMov s75 w10] 3)
(.seq (.region [qMov s10 w77,
qFad 4 s3 w78,
qLd s78 w79,
seqO (r_len s79 0 80) w80,
seqO (r_call 272 [s77,s80] 0 81) w81,
qMov s81 w76,
seqO (r_extract s76 0 0 82) w82,
seqO (r_extract s76 1 0 83) w83,
qMov s82 w11,
qMov s83 w12] 10)
(.seq (.seq (.region [qMov s12 w84,
qBin bNeq .neq s84 (cn 0) w85] 2)
(.cond s85 (.seq (.region [qMov s12 w86,
qMov s86 w4] 2)
.ret)
.skip))
(.region [qMov s0 w87,
qMov s0 w88,
seqO (r_nilCheck s88 0 89) w89,
qFad 0 s89 w90,
qLd s90 w91,
qMov s11 w92,
seqO (r_append 1 1 s91 s92 0 93) w93,
seqO (r_nilCheck s87 0 94) w94,
qFad 0 s94 w95,
seqO (r_store 1 s95 s93 0 0) wN] 10)))))
(.region [qBin bAdd .add s72 (cn 1) w96,
qMov s96 w72] 2)))))))
(.seq (.region [qMov (cn 0) w4] 1)
.ret))))))))),true⟩
def q245:QFn:=⟨2,[.t s4],
(.seq (.region [qMov (cn 0) w4] 1)
(.seq (.seq (.region [qMov s1 w6,
seqO (r_callF 273 [s6] 0 7) w7,
qMov s7 w5] 3)
(.seq (.region [qMov s5 w8,
qBin bNeq .neq s8 (cn 0) w9] 2)
(.cond s9 (.seq (.region [qMov s5 w10,
qMov s10 w4] 2)
.ret)
.skip)))
(.seq (.seq (.region [qMov s0 w11,
qMov s1 w12,
seqO (r_callF 274 [s11,s12] 0 13) w13,
seqO (r_un .not s13 0 14) w14] 4)
(.cond s14 (.seq (.region [qMov (cn 8) w4] 1)
.ret)
.skip))
(.seq (.region [qMov (cn 0) w4] 1)
.ret)))),false⟩
def q246:QFn:=⟨2,[.t s4],
(.seq (.region [qMov (cn 0) w4] 1)
(.seq (.region [qMov s0 w8,
qMov (cn 0) w5,
qMov s8 w6] 3)
(.seq (.block 0 (.loop (.seq (.seq (.region [qMov s5 w9,
qMov s6 w10,
qBin bLss .lss s9 s10 w11] 3)
(.cond s11 .skip
(.exit 0)))
(.block 1 (.seq (.region [qMov s5 w12,
qMov s6 w13,
qBin bAdd .add s12 s13 w14,
seqO (r_conv .u64 s14 0 15) w15,
qBin (bGen .shr) .shr s15 (cu 1) w16,
seqO (r_conv .i64 s16 0 17) w17,
qMov s17 w7] 7)
(.seq (.region [qMov s1 w18,
qMov s7 w19,
seqO (r_callv s18 [s19] 0 20) w20,
seqO (r_un .not s20 0 21) w21] 4)
(.cond s21 (.region [qMov s7 w22,
qBin bAdd .add s22 (cn 1) w23,
qMov s23 w5] 3)
(.region [qMov s7 w24,
qMov s24 w6] 2))))))))
(.seq (.region [qMov s5 w25,
qMov s25 w4] 2)
.ret)))),true⟩
def q247:QFn:=⟨3,[.t s4],
(.seq (.region [qMov cF w4] 1)
(.seq (.draw [⟨(r_load 1 false s1 0 5),w5,0⟩,
⟨(r_mov s0 0 6),w6,0⟩,
⟨(r_indexAddr 2 s5 s6 0 7),w7,3⟩,
⟨(r_fieldAddr 0 s7 0 8),w8,7⟩,
⟨(r_load 1 false s8 0 9),w9,15⟩,
⟨(r_load 1 false s2 0 10),w10,0⟩,
⟨(r_bin .gtr s9 s10 0 11),w11,63⟩,
⟨(r_mov s11 0 4),w4,127⟩] 8)
.ret)),true⟩
def q248:QFn:=⟨2,[.t s4],
(.seq (.region [qMov cF w4] 1)
(.seq (.region [qMov s0 w10,
qMov s1 w11,
seqO (r_indexAddr 4 s10 s11 0 12) w12,
seqO (r_load 4 true s12 0 13) w13,
seqO (r_alloc [b0,i0,i0,oF] 0 5) w5,
seqO (r_store 4 s5 s13 0 0) wN] 6)
(.seq (.region [qMov (cK (.clo 275 [])) w6] 1)
(.seq (.seq (.region [qFad 0 s5 w14,
qLd s14 w15] 2)
(.block 0 (.seq (.seq (.region [qBin bEql .eql s15 (cb 1) w17,
qMov s17 w16] 2)
(.cond s16 .skip
(.seq (.region [qBin bEql .eql s15 (cb 2) w18,
qMov s18 w16] 2)
(.cond s16 .skip
(.region [qBin bEql .eql s15 (cb 3) w19,
qMov s19 w16] 2)))))
(.cond s16 (.seq (.region [qFad 1 s5 w20,
qLd s20 w21,
qFad 2 s5 w22,
qLd s22 w23,
qFad 3 s5 w24,
qLd s24 w25,
seqO (r_len s25 0 26) w26,
seqO (r_buildSlice 1 3 [di] [(0,s21),(1,s23),(2,s26)] 2 27) w27,
seqO (r_callF 276 [s27] 0 28) w28,
qMov s28 w4] 10)
.ret)
(.seq (.seq (.region [qBin bEql .eql s15 (cb 4) w30,
qMov s30 w29] 2)
(.cond s29 .skip
(.region [qBin bEql .eql s15 (cb 7) w31,
qMov s31 w29] 2)))
(.cond s29 (.seq (.region [qMov s6 w32,
qFad 1 s5 w33,
qLd s33 w34,
qMov s0 w35,
seqO (r_len s35 0 36) w36,
seqO (r_callv s32 [s34,s36] 0 37) w37,
qMov s37 w38,
gdO s38 true w39 (qFad 2 s5 w39),
gdO s38 true w40 (qLd s39 w40),
gdO s38 true w41 (qFad 3 s5 w41),
gdO s38 true w42 (qLd s41 w42),
gdO s38 true w43 (seqO (r_len s42 0 43) w43),
gdO s38 true w44 (seqO (r_buildSlice 1 2 [di] [(0,s40),(1,s43)] 2 44) w44),
gdO s38 true w45 (seqO (r_callF 276 [s44] 0 45) w45),
qPick s38 s45 cF w46,
qMov s46 w4] 16)
.ret)
(.seq (.region [qBin bEql .eql s15 (cb 6) w48,
qMov s48 w47] 2)
(.cond s47 (.seq (.region [qMov s6 w49,
qFad 1 s5 w50,
qLd s50 w51,
qMov s1 w52,
seqO (r_callv s49 [s51,s52] 0 53) w53,
qMov s53 w54,
gdO s54 true w55 (qMov s6 w55),
gdO s54 true w56 (qFad 2 s5 w56),
gdO s54 true w57 (qLd s56 w57),
gdO s54 true w58 (qBin bSub .sub s57 (cn 1) w58),
gdO s54 true w59 (seqO (r_callv s55 [s58,(cn 16)] 0 59) w59),
qPick s54 s59 cF w60,
qMov s60 w61,
gdO s61 true w62 (qFad 3 s5 w62),
gdO s61 true w63 (qLd s62 w63),
gdO s61 true w64 (seqO (r_len s63 0 64) w64),
gdO s61 true w65 (seqO (r_buildSlice 1 1 [di] [(0,s64)] 2 65) w65),
gdO s61 true w66 (seqO (r_callF 276 [s65] 0 66) w66),
qPick s61 s66 cF w67,
qMov s67 w4] 20)
.ret)
(.seq (.region [qBin bEql .eql s15 (cb 5) w69,
qMov s69 w68] 2)
(.cond s68 (.seq (.region [seqO (r_mkSet 0 70) w70,
qMov s70 w7] 2)
(.seq (.seq (.region [qFad 3 s5 w71,
qLd s71 w72,
seqO (r_len s72 0 73) w73,
qMov (cn 0) w74] 4)
(.block 1 (.loop (.seq (.region [qBin bLss .lss s74 s73 w75] 1)
(.seq (.cond s75 .skip
(.exit 1))
(.seq (.block 2 (.seq (.region [seqO (r_indexAddr 2 s72 s74 0 76) w76,
seqO (r_load 2 true s76 0 77) w77,
seqO (r_alloc [(.d (.sc (.string ⟨#[]⟩))),i0] 0 9) w9,
seqO (r_store 2 s9 s77 0 0) wN] 4)
(.seq (.seq (.region [qFad 0 s9 w78,
qLd s78 w79,
seqO (r_callF 277 [s79] 0 80) w80,
seqO (r_un .not s80 0 81) w81,
qMov s81 w82,
gdO s82 false w83 (qMov s7 w83),
gdO s82 false w84 (qFad 0 s9 w84),
gdO s82 false w85 (qLd s84 w85),
gdO s82 false w86 (seqO (r_hasK s83 s85 0 86) w86),
qPick s82 cT s86 w87,
qMov s87 w88,
gdO s88 false w89 (qMov s6 w89),
gdO s88 false w90 (qFad 1 s9 w90),
gdO s88 false w91 (qLd s90 w91),
gdO s88 false w92 (qMov s1 w92),
gdO s88 false w93 (seqO (r_callv s89 [s91,s92] 0 93) w93),
gdO s88 false w94 (seqO (r_un .not s93 0 94) w94),
qPick s88 cT s94 w95] 18)
(.cond s95 (.seq (.region [qMov cF w4] 1)
.ret)
.skip))
(.region [qMov s7 w96,
qFad 0 s9 w97,
qLd s97 w98,
seqO (r_addK s96 s98 0 0) wN] 4))))
(.region [qBin bAdd .add s74 (cn 1) w99,
qMov s99 w74] 2)))))))
(.seq (.region [qFad 1 s5 w100,
qLd s100 w101,
qFad 2 s5 w102,
qLd s102 w103,
seqO (r_buildSlice 1 2 [di] [(0,s101),(1,s103)] 2 104) w104,
seqO (r_callF 276 [s104] 0 105) w105,
qMov s105 w106,
gdO s106 true w107 (qFad 3 s5 w107),
gdO s106 true w108 (qLd s107 w108),
gdO s106 true w109 (seqO (r_len s108 0 109) w109),
gdO s106 true w110 (qBin bGtr .gtr s109 (cn 0) w110),
qPick s106 s110 cF w111,
qMov s111 w112,
gdO s112 true w113 (qFad 3 s5 w113),
gdO s112 true w114 (qLd s113 w114),
gdO s112 true w115 (seqO (r_len s114 0 115) w115),
gdO s112 true w116 (qBin bLeq .leq s115 (cn 8) w116),
qPick s112 s116 cF w117,
qMov s117 w4] 19)
.ret)))
.skip))))))))))
(.seq (.region [qMov cF w4] 1)
.ret))))),false⟩
def q249:QFn:=⟨1,[.t s2],
(.seq (.region [qMov (cK oF) w2] 1)
(.seq (.region [qMov s0 w10,
seqO (r_len s10 0 11) w11,
seqO (r_makeSlice 1 8 [di] s11 s11 0 12) w12,
seqO (r_mov s12 6 3) w3] 4)
(.seq (.seq (.region [qMov (cn 0) w13] 1)
(.block 0 (.loop (.seq (.region [qBin bLss .lss s13 (cn 4) w14] 1)
(.seq (.cond s14 .skip
(.exit 0))
(.seq (.block 1 (.seq (.region [qMov s0 w15,
seqO (r_len s15 0 16) w16,
seqO (r_makeSlice 1 8 [di] s16 s16 1 17) w17,
qMov s17 w4] 4)
(.seq (.seq (.region [qMov s0 w18,
seqO (r_len s18 0 19) w19,
qMov (cn 0) w20] 3)
(.block 2 (.loop (.seq (.region [qBin bLss .lss s20 s19 w21] 1)
(.seq (.cond s21 .skip
(.exit 2))
(.seq (.block 3 (.seq (.region [qMov s20 w22,
seqO (r_indexAddr 4 s18 s20 0 23) w23,
seqO (r_load 4 true s23 0 24) w24,
seqO (r_alloc [b0,i0,i0,oF] 0 6) w6,
qMov s22 w5,
seqO (r_store 4 s6 s24 0 0) wN] 6)
(.seq (.region [qMov (cn 1) w7] 1)
(.seq (.seq (.region [qFad 0 s6 w25,
qLd s25 w26] 2)
(.block 4 (.seq (.region [qBin bEql .eql s26 (cb 4) w28,
qMov s28 w27] 2)
(.cond s27 (.region [qMov s7 w29,
qMov s3 w30,
qFad 1 s6 w31,
qLd s31 w32,
seqO (r_indexAddr 1 s30 s32 0 33) w33,
qLd s33 w34,
qBin bAdd .add s29 s34 w35,
qMov s35 w7] 8)
(.seq (.region [qBin bEql .eql s26 (cb 7) w37,
qMov s37 w36] 2)
(.cond s36 (.region [qMov s7 w38,
qMov s3 w39,
qFad 1 s6 w40,
qLd s40 w41,
seqO (r_indexAddr 1 s39 s41 0 42) w42,
qLd s42 w43,
qBin (bGen .mul) .mul (cn 16) s43 w44,
qBin bAdd .add s38 s44 w45,
qMov s45 w7] 9)
(.seq (.region [qBin bEql .eql s26 (cb 6) w47,
qMov s47 w46] 2)
(.cond s46 (.draw [⟨(r_mov s7 0 48),w48,0⟩,
⟨(r_fieldAddr 2 s6 0 49),w49,0⟩,
⟨(r_load 1 false s49 0 50),w50,2⟩,
⟨(r_mov s4 0 51),w51,0⟩,
⟨(r_fieldAddr 1 s6 0 52),w52,0⟩,
⟨(r_load 1 false s52 0 53),w53,16⟩,
⟨(r_indexAddr 1 s51 s53 0 54),w54,56⟩,
⟨(r_load 1 false s54 0 55),w55,120⟩,
⟨(r_bin .mul s50 s55 0 56),w56,254⟩,
⟨(r_bin .add s48 s56 0 57),w57,511⟩,
⟨(r_mov s57 0 7),w7,1023⟩] 11)
.skip))))))))
(.seq (.seq (.region [qFad 3 s6 w58,
qLd s58 w59,
seqO (r_len s59 0 60) w60,
qMov (cn 0) w61] 4)
(.block 5 (.loop (.seq (.region [qBin bLss .lss s61 s60 w62] 1)
(.seq (.cond s62 .skip
(.exit 5))
(.seq (.block 6 (.seq (.region [seqO (r_indexAddr 2 s59 s61 0 63) w63,
seqO (r_load 2 true s63 0 64) w64,
seqO (r_alloc [(.d (.sc (.string ⟨#[]⟩))),i0] 0 9) w9,
seqO (r_store 2 s9 s64 0 0) wN] 4)
(.region [qMov s7 w65,
qMov s4 w66,
qFad 1 s9 w67,
qLd s67 w68,
seqO (r_indexAddr 1 s66 s68 0 69) w69,
qLd s69 w70,
qBin bAdd .add s65 s70 w71,
qMov s71 w7] 8)))
(.region [qBin bAdd .add s61 (cn 1) w72,
qMov s72 w61] 2)))))))
(.region [qMov s4 w73,
qMov s5 w74,
qMov s7 w75,
seqO (r_mini s75 (cn 5001) 0 76) w76,
seqO (r_indexAddr 1 s73 s74 0 77) w77,
seqO (r_store 1 s77 s76 0 0) wN] 6))))))
(.region [qBin bAdd .add s20 (cn 1) w78,
qMov s78 w20] 2)))))))
(.region [qMov s4 w79,
seqO (r_mov s79 6 3) w3] 2))))
(.region [qBin bAdd .add s13 (cn 1) w80,
qMov s80 w13] 2)))))))
(.seq (.region [qMov s3 w81,
qMov s81 w2] 2)
.ret)))),false⟩
def q250:QFn:=⟨1,[.t s2],
(.seq (.region [qMov (cn 0) w2] 1)
(.seq (.region [qMov s0 w3,
qBin bAdd .add s3 (cn 7) w4,
qBin (bGen .quo) .quo s4 (cn 8) w5,
qBin (bGen .mul) .mul s5 (cn 8) w6,
seqO (r_maxi (cn 8) s6 0 7) w7,
qMov s7 w2] 6)
.ret)),false⟩
def q251:QFn:=⟨2,[.cell s4 2 true,.t s5],
(.seq (.region [seqO (r_box s0 0 2) w2,
seqO (r_alloc [u0,oF] 0 4) w4,
qMov (cn 0) w5] 3)
(.seq (.seq (.region [seqO (r_load 2 true s2 0 8) w8,
seqO (r_callF 36 [s8] 0 9) w9,
qMov s9 w6] 3)
(.seq (.region [qMov s6 w10,
qBin bNeq .neq s10 (cn 0) w11] 2)
(.cond s11 (.seq (.region [seqO (r_build [u0,oF] [] 0 12) w12,
qMov s6 w13,
seqO (r_store 2 s4 s12 0 0) wN,
qMov s13 w5] 4)
.ret)
.skip)))
(.seq (.seq (.region [qMov s1 w14,
qBin bLss .lss s14 (cn 0) w15,
qMov s15 w16,
gdO s16 false w17 (qMov s1 w17),
gdO s16 false w18 (qBin bGtr .gtr s17 (cn 20000) w18),
qPick s16 cT s18 w19] 6)
(.cond s19 (.seq (.region [seqO (r_build [u0,oF] [] 0 20) w20,
seqO (r_store 2 s4 s20 0 0) wN,
qMov (cn 2) w5] 3)
.ret)
.skip))
(.seq (.region [qMov s1 w21,
seqO (r_makeSlice 1 1 [db] s21 s21 1 22) w22,
qMov s22 w7] 3)
(.seq (.region [qMov s7 w23,
qFad 1 s2 w24,
qLd s24 w25,
seqO (r_copy 1 s23 s25 0 26) w26] 4)
(.seq (.region [qFad 0 s2 w27,
qLd s27 w28,
qMov s7 w29,
seqO (r_build [u0,oF] [(0,1,s28),(1,1,s29)] 0 30) w30,
seqO (r_store 2 s4 s30 0 0) wN,
qMov (cn 0) w5] 6)
.ret)))))),false⟩
def q252:QFn:=⟨1,[.t s2],
(.seq (.region [seqO (r_box s0 0 1) w1,
qMov (cn 0) w2] 2)
(.seq (.region [seqO (r_load 2 true s1 0 6) w6,
seqO (r_callF 76 [s6,(cn 0)] 0 7) w7,
qMov s7 w5,
seqO (r_extract s5 0 0 8) w8,
seqO (r_extract s5 1 0 9) w9,
qMov s8 w3,
qMov s9 w4] 7)
(.seq (.region [qMov s4 w10,
qMov s10 w2] 2)
.ret))),false⟩
def q253:QFn:=⟨2,[.t s4],
(.seq (.region [seqO (r_box s0 0 2) w2,
qMov (cn 0) w4] 2)
(.seq (.seq (.region [seqO (r_load 2 true s2 0 8) w8,
seqO (r_callF 252 [s8] 0 9) w9,
qMov s9 w5] 3)
(.seq (.region [qMov s5 w10,
qBin bNeq .neq s10 (cn 0) w11] 2)
(.cond s11 (.seq (.region [qMov s5 w12,
qMov s12 w4] 2)
.ret)
.skip)))
(.seq (.seq (.region [seqO (r_load 2 true s2 0 14) w14,
qMov s1 w15,
seqO (r_callF 143 [s14,s15,(cn 56)] 0 16) w16,
qMov s16 w13,
seqO (r_extract s13 0 0 17) w17,
seqO (r_extract s13 1 0 18) w18,
qMov s17 w6,
qMov s18 w7] 8)
(.seq (.region [qMov s6 w19,
seqO (r_un .not s19 0 20) w20,
qMov s20 w21,
gdO s21 false w22 (qMov s1 w22),
gdO s21 false w23 (qBin (bGen .rem) .rem s22 (cu 8) w23),
gdO s21 false w24 (qBin bNeq .neq s23 (cu 0) w24),
qPick s21 cT s24 w25] 7)
(.cond s25 (.seq (.region [qMov (cn 16) w4] 1)
.ret)
.skip)))
(.seq (.region [qMov (cn 0) w4] 1)
.ret)))),false⟩
def q254:QFn:=⟨2,[.t s4,.t s5],
(.seq (.region [seqO (r_mov (cK oF) 393220 4) w4,
qMov (cn 0) w5] 2)
(.seq (.seq (.region [qMov s0 w8,
qMov s1 w9,
seqO (r_callF 200 [s8,s9] 0 10) w10,
qMov s10 w6] 4)
(.seq (.region [qMov s6 w11,
qBin bNeq .neq s11 (cn 0) w12] 2)
(.cond s12 (.seq (.region [qMov s6 w13,
seqO (r_mov (cK oF) 393220 4) w4,
qMov s13 w5] 3)
.ret)
.skip)))
(.seq (.seq (.region [qMov s0 w14,
qMov s1 w15,
seqO (r_indexAddr 6 s14 s15 0 16) w16,
qFad 0 s16 w17,
qLd s17 w18,
qBin bEql .eql s18 (cb 3) w19] 6)
(.cond s19 (.seq (.region [seqO (r_mov (cK oF) 393220 4) w4,
qMov (cn 36) w5] 2)
.ret)
.skip))
(.seq (.region [qMov s0 w20,
seqO (r_clone 6 48 s20 1 21) w21,
qMov s21 w7] 3)
(.seq (.region [qMov s7 w22,
qMov s1 w23,
qMov s1 w24,
seqO (r_callF 236 [s24] 0 25) w25,
seqO (r_build [b0,u0,u0,u0,u0,i0] [(0,1,(cb 3)),(2,1,s25)] 0 26) w26,
seqO (r_indexAddr 6 s22 s23 0 27) w27,
seqO (r_store 6 s27 s26 0 0) wN] 7)
(.seq (.region [qMov s7 w28,
seqO (r_mov s28 393220 4) w4,
qMov (cn 0) w5] 3)
.ret)))))),false⟩
def q258:QFn:=⟨1,[.t s2],
(.seq (.region [seqO (r_box s0 0 1) w1,
qMov (cK oF) w2] 2)
(.seq (.region [qMov (cK oF) w3] 1)
(.seq (.seq (.region [qFad 0 s1 w5,
qLd s5 w6,
qBin bEql .eql s6 (cb 6) w7] 3)
(.cond s7 (.region [qMov s3 w8,
qFad 1 s1 w9,
qLd s9 w10,
seqO (r_buildSlice 1 1 [di] [(0,s10)] 0 11) w11,
seqO (r_append 1 8 s8 s11 0 12) w12,
qMov s12 w3] 6)
.skip))
(.seq (.seq (.region [qMov (cn 0) w4] 1)
(.block 0 (.loop (.seq (.seq (.region [qMov s4 w13,
qFad 3 s1 w14,
qLd s14 w15,
seqO (r_len s15 0 16) w16,
qBin bLss .lss s13 s16 w17] 5)
(.cond s17 .skip
(.exit 0)))
(.seq (.block 1 (.region [qMov s3 w20,
qFad 3 s1 w21,
qLd s21 w22,
qMov s4 w23,
seqO (r_indexAddr 2 s22 s23 0 24) w24,
qFad 1 s24 w25,
qLd s25 w26,
seqO (r_buildSlice 1 1 [di] [(0,s26)] 0 27) w27,
seqO (r_append 1 8 s20 s27 0 28) w28,
qMov s28 w3] 10))
(.region [qMov s4 w18,
qBin bAdd .add s18 (cn 1) w19,
qMov s19 w4] 3))))))
(.seq (.region [qMov s3 w29,
qMov s29 w2] 2)
.ret))))),false⟩
def q259:QFn:=⟨1,[.t s2],
(.seq (.region [qMov cF w2] 1)
(.seq (.region [qMov s0 w3,
qBin bGeq .geq s3 (cb 97) w4,
qMov s4 w5,
gdO s5 true w6 (qMov s0 w6),
gdO s5 true w7 (qBin bLeq .leq s6 (cb 122) w7),
qPick s5 s7 cF w8,
qMov s8 w9,
gdO s9 false w10 (qMov s0 w10),
gdO s9 false w11 (qBin bGeq .geq s10 (cb 65) w11),
gdO s9 false w12 (qMov s11 w12),
gdO s12 true w13 (qMov s0 w13),
gdO s12 true w14 (qBin bLeq .leq s13 (cb 90) w14),
gdO s9 false w15 (qPick s12 s14 cF w15),
qPick s9 cT s15 w16,
qMov s16 w2] 15)
.ret)),false⟩
def q260:QFn:=⟨1,[.t s2,.t s3],
(.seq (.region [qMov (cK oF) w2,
qMov (cn 0) w3] 2)
(.seq (.seq (.region [qMov s0 w6,
seqO (r_callF 278 [s6] 0 7) w7,
qMov s7 w4] 3)
(.seq (.region [qMov s4 w8,
qBin bNeq .neq s8 (cn 0) w9] 2)
(.cond s9 (.seq (.region [qMov s4 w10,
qMov (cK oF) w2,
qMov s10 w3] 3)
.ret)
.skip)))
(.seq (.region [qMov s0 w11,
seqO (r_len s11 0 12) w12,
seqO (r_makeSlice 1 1 [(.sc (.bool false))] s12 s12 1 13) w13,
seqO (r_alloc [oF] 0 5) w5,
seqO (r_store 1 s5 s13 0 0) wN] 5)
(.seq (.region [qMov s0 w14,
seqO (r_makeFunc 280 [s5] 0 15) w15,
seqO (r_callF 279 [s14,s15] 0 16) w16] 3)
(.seq (.region [qLd s5 w17,
qLd s5 w18,
seqO (r_len s18 0 19) w19,
qBin bSub .sub s19 (cn 1) w20,
seqO (r_indexAddr 1 s17 s20 0 21) w21,
seqO (r_store 1 s21 cT 0 0) wN] 6)
(.seq (.region [qLd s5 w22,
qMov s22 w2,
qMov (cn 0) w3] 3)
.ret)))))),false⟩
def q261:QFn:=⟨2,[.t s4],
(.seq (.region [seqO (r_box s0 0 2) w2,
seqO (r_box s1 0 3) w3,
qMov (cn 0) w4] 3)
(.seq (.region [seqO (r_load 4 true s3 0 12) w12,
seqO (r_call 265 [s12] 65537 13) w13,
qMov s13 w11,
seqO (r_extract s11 0 0 14) w14,
seqO (r_extract s11 1 0 15) w15,
seqO (r_extract s11 2 0 16) w16,
qMov s14 w5,
qMov s15 w6,
qMov s16 w7] 9)
(.seq (.seq (.region [qMov s7 w17,
qBin bNeq .neq s17 (cn 0) w18] 2)
(.cond s18 (.seq (.region [qMov s7 w19,
qMov s19 w4] 2)
.ret)
.skip))
(.seq (.seq (.region [qMov s5 w20,
qMov s6 w21,
seqO (r_append 1 8 s20 s21 0 22) w22,
seqO (r_len s22 0 23) w23,
qMov (cn 0) w24] 5)
(.block 0 (.loop (.seq (.region [qBin bLss .lss s24 s23 w25] 1)
(.seq (.cond s25 .skip
(.exit 0))
(.seq (.block 1 (.seq (.region [seqO (r_indexAddr 1 s22 s24 0 26) w26,
qLd s26 w27,
qMov s27 w9] 3)
(.seq (.region [qFad 3 s2 w28,
qFad 3 s28 w29,
qLd s29 w30,
qMov s9 w31,
seqO (r_callF 281 [s30,s31] 0 32) w32,
seqO (r_un .not s32 0 33) w33] 6)
(.cond s33 (.seq (.region [qMov (cn 16) w4] 1)
.ret)
.skip))))
(.region [qBin bAdd .add s24 (cn 1) w34,
qMov s34 w24] 2)))))))
(.seq (.seq (.region [seqO (r_load 4 true s3 0 35) w35,
seqO (r_callF 282 [s35] 0 36) w36,
qMov s36 w10] 3)
(.seq (.region [qMov s10 w37,
qFad 0 s2 w38,
qFad 2 s38 w39,
qLd s39 w40,
seqO (r_len s40 0 41) w41,
qBin bGeq .geq s37 s41 w42,
qMov s42 w43,
gdO s43 false w44 (qFad 0 s3 w44),
gdO s43 false w45 (qLd s44 w45),
gdO s43 false w46 (qBin bEql .eql s45 (cb 2) w46),
gdO s43 false w47 (qMov s46 w47),
gdO s47 true w48 (qFad 0 s2 w48),
gdO s47 true w49 (qFad 1 s48 w49),
gdO s47 true w50 (qLd s49 w50),
gdO s47 true w51 (qFad 2 s3 w51),
gdO s47 true w52 (qLd s51 w52),
gdO s47 true w53 (seqO (r_callF 283 [s50,s52] 0 53) w53),
gdO s47 true w54 (seqO (r_un .not s53 0 54) w54),
gdO s43 false w55 (qPick s47 s54 cF w55),
qPick s43 cT s55 w56] 20)
(.cond s56 (.seq (.region [qMov (cn 16) w4] 1)
.ret)
.skip)))
(.seq (.region [qMov (cn 0) w4] 1)
.ret)))))),false⟩
def q262:QFn:=⟨2,[.t s4],
(.seq (.region [seqO (r_box s0 0 2) w2,
seqO (r_box s1 0 3) w3,
qMov cF w4] 3)
(.seq (.draw [⟨(r_load 10 true s2 0 10),w10,0⟩,
⟨(r_fieldAddr 1 s3 0 11),w11,0⟩,
⟨(r_load 1 false s11 0 12),w12,2⟩,
⟨(r_callF 284 [s10,s12] 0 13),w13,7⟩,
⟨(r_load 10 true s2 0 14),w14,0⟩,
⟨(r_fieldAddr 2 s3 0 15),w15,0⟩,
⟨(r_load 1 false s15 0 16),w16,32⟩,
⟨(r_callF 284 [s14,s16] 0 17),w17,127⟩,
⟨(r_load 10 true s2 0 18),w18,0⟩,
⟨(r_fieldAddr 3 s3 0 19),w19,0⟩,
⟨(r_load 1 false s19 0 20),w20,512⟩,
⟨(r_callF 284 [s18,s20] 0 21),w21,2047⟩,
⟨(r_mov s13 0 5),w5,4095⟩,
⟨(r_mov s17 0 6),w6,8191⟩,
⟨(r_mov s21 0 7),w7,16383⟩] 15)
(.seq (.region [seqO (r_makeFunc 285 [s2] 0 22) w22,
qMov s22 w8] 2)
(.seq (.region [seqO (r_makeFunc 288 [s2] 0 23) w23,
qMov s23 w9] 2)
(.seq (.seq (.region [qFad 0 s3 w24,
qLd s24 w25] 2)
(.block 0 (.seq (.seq (.region [qBin bEql .eql s25 (cb 1) w27,
qMov s27 w26] 2)
(.cond s26 .skip
(.region [qBin bEql .eql s25 (cb 32) w28,
qMov s28 w26] 2)))
(.cond s26 (.seq (.region [qMov s8 w29,
qMov s5 w30,
seqO (r_buildSlice 1 1 [di] [(0,s30)] 0 31) w31,
seqO (r_callv s29 [s31] 0 32) w32,
qMov s32 w4] 5)
.ret)
(.seq (.region [qBin bEql .eql s25 (cb 2) w34,
qMov s34 w33] 2)
(.cond s33 (.seq (.region [seqO (r_load 10 true s2 0 35) w35,
qMov s5 w36,
seqO (r_buildSlice 1 1 [db] [(0,(cb 3))] 2 37) w37,
seqO (r_callF 287 [s35,s36,s37] 0 38) w38,
qMov s38 w4] 5)
.ret)
(.seq (.seq (.region [qBin bEql .eql s25 (cb 3) w40,
qMov s40 w39] 2)
(.cond s39 .skip
(.region [qBin bEql .eql s25 (cb 23) w41,
qMov s41 w39] 2)))
(.cond s39 (.seq (.region [qMov s9 w42,
qMov s5 w43,
seqO (r_callv s42 [s43] 0 44) w44,
qMov s44 w4] 4)
.ret)
(.seq (.region [qBin bEql .eql s25 (cb 5) w46,
qMov s46 w45] 2)
(.cond s45 (.seq (.region [qMov s5 w47,
qMov s6 w48,
qBin bEql .eql s47 s48 w49,
qMov s49 w4] 4)
.ret)
(.seq (.seq (.region [qBin bEql .eql s25 (cb 6) w51,
qMov s51 w50] 2)
(.cond s50 .skip
(.seq (.region [qBin bEql .eql s25 (cb 7) w52,
qMov s52 w50] 2)
(.cond s50 .skip
(.seq (.region [qBin bEql .eql s25 (cb 8) w53,
qMov s53 w50] 2)
(.cond s50 .skip
(.region [qBin bEql .eql s25 (cb 9) w54,
qMov s54 w50] 2)))))))
(.cond s50 (.seq (.region [qMov s8 w55,
qMov s5 w56,
qMov s6 w57,
qMov s7 w58,
seqO (r_buildSlice 1 3 [di] [(0,s56),(1,s57),(2,s58)] 0 59) w59,
seqO (r_callv s55 [s59] 0 60) w60,
qMov s60 w4] 7)
.ret)
(.seq (.region [qBin bEql .eql s25 (cb 10) w62,
qMov s62 w61] 2)
(.cond s61 (.seq (.region [qMov s9 w63,
qMov s5 w64,
seqO (r_callv s63 [s64] 0 65) w65,
qMov s65 w66,
gdO s66 true w67 (qMov s8 w67),
gdO s66 true w68 (qMov s6 w68),
gdO s66 true w69 (qMov s7 w69),
gdO s66 true w70 (seqO (r_buildSlice 1 2 [di] [(0,s68),(1,s69)] 0 70) w70),
gdO s66 true w71 (seqO (r_callv s67 [s70] 0 71) w71),
qPick s66 s71 cF w72,
qMov s72 w4] 11)
.ret)
(.seq (.region [qBin bEql .eql s25 (cb 11) w74,
qMov s74 w73] 2)
(.cond s73 (.seq (.region [qMov s9 w75,
qMov s5 w76,
seqO (r_callv s75 [s76] 0 77) w77,
qMov s77 w78,
gdO s78 true w79 (qMov s6 w79),
gdO s78 true w80 (qMov s7 w80),
gdO s78 true w81 (qBin bEql .eql s79 s80 w81),
qPick s78 s81 cF w82,
qMov s82 w83,
gdO s83 true w84 (seqO (r_load 10 true s2 0 84) w84),
gdO s83 true w85 (qMov s6 w85),
gdO s83 true w86 (seqO (r_buildSlice 1 3 [db] [(0,(cb 2)),(1,(cb 1)),(2,(cb 4))] 2 86) w86),
gdO s83 true w87 (seqO (r_callF 287 [s84,s85,s86] 0 87) w87),
qPick s83 s87 cF w88,
qMov s88 w4] 15)
.ret)
(.seq (.region [qBin bEql .eql s25 (cb 12) w90,
qMov s90 w89] 2)
(.cond s89 (.seq (.region [qMov s9 w91,
qMov s5 w92,
seqO (r_callv s91 [s92] 0 93) w93,
qMov s93 w94,
gdO s94 true w95 (qMov s9 w95),
gdO s94 true w96 (qMov s6 w96),
gdO s94 true w97 (seqO (r_callv s95 [s96] 0 97) w97),
qPick s94 s97 cF w98,
qMov s98 w4] 9)
.ret)
(.seq (.region [qBin bEql .eql s25 (cb 13) w100,
qMov s100 w99] 2)
(.cond s99 (.seq (.region [seqO (r_load 10 true s2 0 101) w101,
qMov s6 w102,
qFad 3 s3 w103,
qLd s103 w104,
qMov s5 w105,
seqO (r_callF 289 [s101,s102,s104,s105] 0 106) w106,
qMov s106 w4] 7)
.ret)
(.seq (.region [qBin bEql .eql s25 (cb 14) w108,
qMov s108 w107] 2)
(.cond s107 (.seq (.region [seqO (r_load 10 true s2 0 109) w109,
qMov s5 w110,
qFad 2 s3 w111,
qLd s111 w112,
qMov s7 w113,
seqO (r_callF 289 [s109,s110,s112,s113] 0 114) w114,
qMov s114 w4] 7)
.ret)
(.seq (.region [qBin bEql .eql s25 (cb 15) w116,
qMov s116 w115] 2)
(.cond s115 (.seq (.region [seqO (r_load 10 true s2 0 117) w117,
qMov s5 w118,
seqO (r_buildSlice 1 1 [db] [(0,(cb 4))] 2 119) w119,
seqO (r_callF 287 [s117,s118,s119] 0 120) w120,
qMov s120 w4] 5)
.ret)
(.seq (.region [qBin bEql .eql s25 (cb 16) w122,
qMov s122 w121] 2)
(.cond s121 (.seq (.region [seqO (r_load 10 true s2 0 123) w123,
qMov s6 w124,
qMov s5 w125,
seqO (r_buildSlice 1 1 [db] [(0,(cb 4))] 2 126) w126,
seqO (r_callF 290 [s123,s124,s125,s126] 0 127) w127,
qMov s127 w4] 6)
.ret)
(.seq (.region [qBin bEql .eql s25 (cb 17) w129,
qMov s129 w128] 2)
(.cond s128 (.seq (.region [seqO (r_load 10 true s2 0 130) w130,
qMov s5 w131,
qMov s6 w132,
seqO (r_buildSlice 1 1 [db] [(0,(cb 4))] 2 133) w133,
seqO (r_callF 290 [s130,s131,s132,s133] 0 134) w134,
qMov s134 w4] 6)
.ret)
(.seq (.region [qBin bEql .eql s25 (cb 18) w136,
qMov s136 w135] 2)
(.cond s135 (.seq (.region [seqO (r_load 10 true s2 0 137) w137,
qMov s5 w138,
seqO (r_buildSlice 1 1 [db] [(0,(cb 7))] 2 139) w139,
seqO (r_callF 287 [s137,s138,s139] 0 140) w140,
qMov s140 w141,
gdO s141 true w142 (qMov s8 w142),
gdO s141 true w143 (qMov s6 w143),
gdO s141 true w144 (seqO (r_buildSlice 1 1 [di] [(0,s143)] 0 144) w144),
gdO s141 true w145 (seqO (r_callv s142 [s144] 0 145) w145),
qPick s141 s145 cF w146,
qMov s146 w4] 11)
.ret)
(.seq (.region [qBin bEql .eql s25 (cb 19) w148,
qMov s148 w147] 2)
(.cond s147 (.seq (.region [seqO (r_load 10 true s2 0 149) w149,
qMov s6 w150,
qMov s5 w151,
seqO (r_buildSlice 1 2 [db] [(0,(cb 7)),(1,(cb 6))] 2 152) w152,
seqO (r_callF 290 [s149,s150,s151,s152] 0 153) w153,
qMov s153 w154,
gdO s154 true w155 (qMov s8 w155),
gdO s154 true w156 (qMov s7 w156),
gdO s154 true w157 (seqO (r_buildSlice 1 1 [di] [(0,s156)] 0 157) w157),
gdO s154 true w158 (seqO (r_callv s155 [s157] 0 158) w158),
qPick s154 s158 cF w159,
qMov s159 w4] 12)
.ret)
(.seq (.region [qBin bEql .eql s25 (cb 20) w161,
qMov s161 w160] 2)
(.cond s160 (.seq (.region [seqO (r_load 10 true s2 0 162) w162,
qMov s5 w163,
qMov s7 w164,
seqO (r_buildSlice 1 2 [db] [(0,(cb 7)),(1,(cb 6))] 2 165) w165,
seqO (r_callF 290 [s162,s163,s164,s165] 0 166) w166,
qMov s166 w167,
gdO s167 true w168 (qMov s8 w168),
gdO s167 true w169 (qMov s6 w169),
gdO s167 true w170 (seqO (r_buildSlice 1 1 [di] [(0,s169)] 0 170) w170),
gdO s167 true w171 (seqO (r_callv s168 [s170] 0 171) w171),
qPick s167 s171 cF w172,
qMov s172 w4] 12)
.ret)
(.seq (.region [qBin bEql .eql s25 (cb 21) w174,
qMov s174 w173] 2)
(.cond s173 (.seq (.region [qMov s8 w175,
qMov s5 w176,
seqO (r_buildSlice 1 1 [di] [(0,s176)] 0 177) w177,
seqO (r_callv s175 [s177] 0 178) w178,
qMov s178 w179,
gdO s179 true w180 (seqO (r_load 10 true s2 0 180) w180),
gdO s179 true w181 (qMov s6 w181),
gdO s179 true w182 (seqO (r_buildSlice 1 3 [db] [(0,(cb 3)),(1,(cb 7)),(2,(cb 6))] 2 182) w182),
gdO s179 true w183 (seqO (r_callF 287 [s180,s181,s182] 0 183) w183),
qPick s179 s183 cF w184,
qMov s184 w4] 11)
.ret)
(.seq (.region [qBin bEql .eql s25 (cb 25) w186,
qMov s186 w185] 2)
(.cond s185 (.seq (.region [qFad 1 s3 w187,
qLd s187 w188,
qBin bLss .lss s188 (cn 0) w189,
qMov s189 w190,
gdO s190 false w191 (qFad 0 s2 w191),
gdO s190 false w192 (qFad 2 s191 w192),
gdO s190 false w193 (qLd s192 w193),
gdO s190 false w194 (qFad 2 s3 w194),
gdO s190 false w195 (qLd s194 w195),
gdO s190 false w196 (seqO (r_indexAddr 7 s193 s195 0 196) w196),
gdO s190 false w197 (qFad 2 s196 w197),
gdO s190 false w198 (qLd s197 w198),
gdO s190 false w199 (qMov s5 w199),
gdO s190 false w200 (qBin bEql .eql s198 s199 w200),
qPick s190 cT s200 w201,
qMov s201 w4] 16)
.ret)
(.seq (.seq (.region [qBin bEql .eql s25 (cb 26) w203,
qMov s203 w202] 2)
(.cond s202 .skip
(.region [qBin bEql .eql s25 (cb 27) w204,
qMov s204 w202] 2)))
(.cond s202 (.seq (.draw [⟨(r_load 10 true s2 0 205),w205,0⟩,
⟨(r_fieldAddr 0 s2 0 206),w206,0⟩,
⟨(r_fieldAddr 2 s206 0 207),w207,2⟩,
⟨(r_load 1 false s207 0 208),w208,6⟩,
⟨(r_fieldAddr 1 s3 0 209),w209,0⟩,
⟨(r_load 1 false s209 0 210),w210,16⟩,
⟨(r_indexAddr 7 s208 s210 0 211),w211,62⟩,
⟨(r_load 7 true s211 0 212),w212,126⟩,
⟨(r_callF 291 [s205,s212] 0 213),w213,255⟩,
⟨(r_mov s213 0 4),w4,511⟩] 10)
.ret)
(.seq (.region [qBin bEql .eql s25 (cb 28) w215,
qMov s215 w214] 2)
(.cond s214 (.seq (.region [seqO (r_load 10 true s2 0 216) w216,
qMov s5 w217,
seqO (r_buildSlice 1 3 [db] [(0,(cb 2)),(1,(cb 1)),(2,(cb 3))] 2 218) w218,
seqO (r_callF 287 [s216,s217,s218] 0 219) w219,
qMov s219 w4] 5)
.ret)
(.seq (.seq (.region [qBin bEql .eql s25 (cb 29) w221,
qMov s221 w220] 2)
(.cond s220 .skip
(.region [qBin bEql .eql s25 (cb 33) w222,
qMov s222 w220] 2)))
(.cond s220 (.seq (.region [qMov s9 w223,
qMov s5 w224,
seqO (r_callv s223 [s224] 0 225) w225,
qMov s225 w226,
gdO s226 true w227 (qMov s8 w227),
gdO s226 true w228 (qMov s6 w228),
gdO s226 true w229 (seqO (r_buildSlice 1 1 [di] [(0,s228)] 0 229) w229),
gdO s226 true w230 (seqO (r_callv s227 [s229] 0 230) w230),
qPick s226 s230 cF w231,
qMov s231 w4] 10)
.ret)
(.seq (.region [qBin bEql .eql s25 (cb 34) w233,
qMov s233 w232] 2)
(.cond s232 (.seq (.region [qFad 1 s3 w234,
qLd s234 w235,
qBin bLss .lss s235 (cn 0) w236,
qMov s236 w237,
gdO s237 false w238 (qFad 3 s2 w238),
gdO s237 false w239 (qFad 2 s238 w239),
gdO s237 false w240 (qLd s239 w240),
gdO s237 false w241 (qMov s5 w241),
gdO s237 false w242 (qBin bEql .eql s240 s241 w242),
qPick s237 cT s242 w243,
qMov s243 w4] 11)
.ret)
.skip))))))))))))))))))))))))))))))))))))))))))))))
(.seq (.region [qMov cT w4] 1)
.ret)))))),false⟩
def q263:QFn:=⟨1,[.t s2,.t s3],
(.seq (.region [seqO (r_box s0 0 1) w1,
qMov (cK oF) w2,
qMov cF w3] 3)
(.seq (.region [qFad 3 s1 w20,
qFad 4 s20 w21,
qLd s21 w22,
qMov s22 w4] 4)
(.seq (.draw [⟨(r_mov s4 0 23),w23,0⟩,
⟨(r_len s23 0 24),w24,1⟩,
⟨(r_makeSlice 1 24 [(.sl [])] s24 s24 1 25),w25,3⟩,
⟨(r_mov s4 0 26),w26,0⟩,
⟨(r_len s26 0 27),w27,8⟩,
⟨(r_makeSlice 1 1 [(.sc (.bool false))] s27 s27 1 28),w28,24⟩,
⟨(r_mov s25 0 5),w5,7⟩,
⟨(r_mov s28 0 6),w6,127⟩] 8)
(.seq (.region [qMov s6 w29,
seqO (r_indexAddr 1 s29 (cn 0) 0 30) w30,
seqO (r_store 1 s30 cT 0 0) wN] 3)
(.seq (.seq (.region [seqO (r_buildSlice 1 1 [di] [(0,(cn 0))] 1 31) w31,
qMov s31 w7] 2)
(.block 0 (.loop (.seq (.seq (.region [qMov s7 w32,
seqO (r_len s32 0 33) w33,
qBin bGtr .gtr s33 (cn 0) w34] 3)
(.cond s34 .skip
(.exit 0)))
(.block 1 (.seq (.region [qMov s7 w35,
qMov s7 w36,
seqO (r_len s36 0 37) w37,
qBin bSub .sub s37 (cn 1) w38,
seqO (r_indexAddr 1 s35 s38 0 39) w39,
qLd s39 w40,
qMov s40 w8] 7)
(.seq (.region [qMov s7 w41,
qMov s7 w42,
seqO (r_len s42 0 43) w43,
qBin bSub .sub s43 (cn 1) w44,
seqO (r_slice 1 s41 none (some s44) none 3 45) w45,
qMov s45 w7] 6)
(.seq (.draw [⟨(r_load 10 true s1 0 47),w47,0⟩,
⟨(r_mov s4 0 48),w48,0⟩,
⟨(r_mov s8 0 49),w49,0⟩,
⟨(r_indexAddr 4 s48 s49 0 50),w50,6⟩,
⟨(r_load 4 true s50 0 51),w51,14⟩,
⟨(r_mov s5 0 52),w52,0⟩,
⟨(r_mov s8 0 53),w53,0⟩,
⟨(r_indexAddr 1 s52 s53 0 54),w54,96⟩,
⟨(r_load 1 false s54 0 55),w55,224⟩,
⟨(r_call 292 [s47,s51,s55] 0 56),w56,511⟩,
⟨(r_mov s56 0 46),w46,1023⟩,
⟨(r_extract s46 0 0 57),w57,2047⟩,
⟨(r_extract s46 1 0 58),w58,2047⟩,
⟨(r_mov s57 0 9),w9,4095⟩,
⟨(r_mov s58 0 10),w10,16383⟩] 15)
(.seq (.region [qMov s4 w60,
qMov s8 w61,
seqO (r_call 293 [s60,s61] 0 62) w62,
qMov s62 w59,
seqO (r_extract s59 0 0 63) w63,
seqO (r_extract s59 1 0 64) w64,
qMov s63 w11,
qMov s64 w12] 8)
(.seq (.seq (.region [qMov s10 w65,
seqO (r_un .not s65 0 66) w66,
qMov s66 w67,
gdO s67 false w68 (qMov s12 w68),
gdO s67 false w69 (qBin bNeq .neq s68 (cn 0) w69),
qPick s67 cT s69 w70] 6)
(.cond s70 (.seq (.region [qMov (cK oF) w2,
qMov cF w3] 2)
.ret)
.skip))
(.seq (.region [qMov s11 w71,
seqO (r_len s71 0 72) w72,
qMov (cn 0) w73] 3)
(.block 2 (.loop (.seq (.region [qBin bLss .lss s73 s72 w74] 1)
(.seq (.cond s74 .skip
(.exit 2))
(.seq (.block 3 (.seq (.region [seqO (r_indexAddr 1 s71 s73 0 75) w75,
qLd s75 w76,
qMov s76 w14] 3)
(.block 4 (.seq (.region [qMov s6 w78,
qMov s14 w79,
seqO (r_indexAddr 1 s78 s79 0 80) w80,
qLd s80 w81,
seqO (r_un .not s81 0 82) w82,
qMov s82 w77] 6)
(.cond s77 (.region [qMov s5 w83,
qMov s14 w84,
qMov s6 w85,
qMov s14 w86,
qMov s9 w87,
qMov s7 w88,
qMov s14 w89,
seqO (r_buildSlice 1 1 [di] [(0,s89)] 0 90) w90,
seqO (r_append 1 8 s88 s90 1 91) w91,
seqO (r_indexAddr 1 s83 s84 0 92) w92,
seqO (r_store 1 s92 s87 0 0) wN,
seqO (r_indexAddr 1 s85 s86 0 93) w93,
seqO (r_store 1 s93 cT 0 0) wN,
qMov s91 w7] 14)
(.seq (.region [qMov s5 w95,
qMov s14 w96,
seqO (r_indexAddr 1 s95 s96 0 97) w97,
qLd s97 w98,
qMov s9 w99,
seqO (r_callF 294 [s98,s99] 0 100) w100,
seqO (r_un .not s100 0 101) w101,
qMov s101 w94] 8)
(.cond s94 (.seq (.region [qMov (cK oF) w2,
qMov cF w3] 2)
.ret)
.skip)))))))
(.region [qBin bAdd .add s73 (cn 1) w102,
qMov s102 w73] 2)))))))))))))))))
(.seq (.region [qMov s4 w103,
seqO (r_len s103 0 104) w104,
seqO (r_makeSlice 1 8 [du] s104 s104 1 105) w105,
qMov s105 w15] 4)
(.seq (.seq (.region [qMov s5 w106,
seqO (r_len s106 0 107) w107,
qMov (cn 0) w108] 3)
(.block 5 (.loop (.seq (.region [qBin bLss .lss s108 s107 w109] 1)
(.seq (.cond s109 .skip
(.exit 5))
(.seq (.block 6 (.seq (.region [qMov s108 w110,
seqO (r_indexAddr 1 s106 s108 0 111) w111,
qLd s111 w112,
qMov s110 w16,
qMov s112 w17] 5)
(.seq (.region [seqO (r_load 10 true s1 0 114) w114,
qMov s17 w115,
seqO (r_callF 295 [s114,s115] 0 116) w116,
qMov s116 w113,
seqO (r_extract s113 0 0 117) w117,
seqO (r_extract s113 1 0 118) w118,
qMov s117 w18,
qMov s118 w19] 8)
(.seq (.seq (.region [qMov s19 w119,
qBin bNeq .neq s119 (cn 0) w120] 2)
(.cond s120 (.seq (.region [qMov (cK oF) w2,
qMov cF w3] 2)
.ret)
.skip))
(.region [qMov s15 w121,
qMov s16 w122,
qMov s18 w123,
seqO (r_conv .u64 s123 0 124) w124,
seqO (r_indexAddr 1 s121 s122 0 125) w125,
seqO (r_store 1 s125 s124 0 0) wN] 6)))))
(.region [qBin bAdd .add s108 (cn 1) w126,
qMov s126 w108] 2)))))))
(.seq (.draw [⟨(r_mov s15 0 127),w127,0⟩,
⟨(r_mov s5 0 128),w128,0⟩,
⟨(r_mov s4 0 129),w129,0⟩,
⟨(r_len s129 0 130),w130,4⟩,
⟨(r_bin .sub s130 (cn 1) 0 131),w131,12⟩,
⟨(r_indexAddr 1 s128 s131 0 132),w132,30⟩,
⟨(r_load 1 false s132 0 133),w133,62⟩,
⟨(r_len s133 0 134),w134,126⟩,
⟨(r_bin .eql s134 (cn 0) 0 135),w135,254⟩,
⟨(r_mov s127 0 2),w2,1⟩,
⟨(r_mov s135 0 3),w3,1023⟩] 11)
.ret)))))))),false⟩
def q264:QFn:=⟨3,[.t s6,.t s7],
(.seq (.region [seqO (r_box s1 0 4) w4,
qMov (cK oF) w6,
qMov (cn 0) w7] 3)
(.seq (.seq (.region [qMov s0 w17,
seqO (r_callF 278 [s17] 0 18) w18,
qMov s18 w8] 3)
(.seq (.region [qMov s8 w19,
qBin bNeq .neq s19 (cn 0) w20] 2)
(.cond s20 (.seq (.region [qMov s8 w21,
qMov (cK oF) w6,
qMov s21 w7] 3)
.ret)
.skip)))
(.seq (.seq (.region [qMov s2 w22,
qBin bLss .lss s22 (cn 0) w23,
qMov s23 w24,
gdO s24 false w25 (qMov s2 w25),
gdO s24 false w26 (qBin bGtr .gtr s25 (cn 16) w26),
qPick s24 cT s26 w27,
qMov s27 w28,
gdO s28 false w29 (qLd s4 w29),
gdO s28 false w30 (qBin bLss .lss s29 (cn 0) w30),
qPick s28 cT s30 w31,
qMov s31 w32,
gdO s32 false w33 (qLd s4 w33),
gdO s32 false w34 (qMov s2 w34),
gdO s32 false w35 (qBin bGtr .gtr s33 s34 w35),
qPick s32 cT s35 w36] 15)
(.cond s36 (.seq (.region [qMov (cK oF) w6,
qMov (cn 2) w7] 2)
.ret)
.skip))
(.seq (.region [qMov s0 w37,
seqO (r_len s37 0 38) w38,
seqO (r_makeSlice 1 8 [du] s38 s38 1 39) w39,
seqO (r_alloc [oF] 0 9) w9,
seqO (r_store 1 s9 s39 0 0) wN] 5)
(.seq (.seq (.region [qMov s0 w40,
seqO (r_len s40 0 41) w41,
qMov (cn 0) w42] 3)
(.block 0 (.loop (.seq (.region [qBin bLss .lss s42 s41 w43] 1)
(.seq (.cond s43 .skip
(.exit 0))
(.seq (.block 1 (.seq (.region [qMov s42 w44,
seqO (r_indexAddr 4 s40 s42 0 45) w45,
seqO (r_load 4 true s45 0 46) w46,
seqO (r_alloc [b0,i0,i0,i0] 0 11) w11,
qMov s44 w10,
seqO (r_store 4 s11 s46 0 0) wN] 6)
(.seq (.region [seqO (r_load 4 true s11 0 48) w48,
seqO (r_call 265 [s48] 0 49) w49,
qMov s49 w47,
seqO (r_extract s47 0 0 50) w50,
seqO (r_extract s47 1 0 51) w51,
seqO (r_extract s47 2 0 52) w52,
qMov s50 w12,
qMov s51 w13,
qMov s52 w14] 9)
(.seq (.seq (.region [qMov s14 w53,
qBin bNeq .neq s53 (cn 0) w54] 2)
(.cond s54 (.seq (.region [qMov s14 w55,
qMov (cK oF) w6,
qMov s55 w7] 3)
.ret)
.skip))
(.seq (.draw [⟨(r_load 1 false s9 0 56),w56,0⟩,
⟨(r_mov s10 0 57),w57,0⟩,
⟨(r_mov s13 0 58),w58,0⟩,
⟨(r_callF 296 [s58] 0 59),w59,4⟩,
⟨(r_indexAddr 1 s56 s57 0 60),w60,15⟩,
⟨(r_store 1 s60 s59 0 0),wN,31⟩] 6)
(.seq (.draw [⟨(r_mov s12 0 61),w61,0⟩,
⟨(r_callF 296 [s61] 0 62),w62,1⟩,
⟨(r_load 1 false s9 0 63),w63,0⟩,
⟨(r_mov s10 0 64),w64,0⟩,
⟨(r_indexAddr 1 s63 s64 0 65),w65,12⟩,
⟨(r_load 1 false s65 0 66),w66,28⟩,
⟨(r_bin .or s62 s66 0 67),w67,63⟩,
⟨(r_mov s2 0 68),w68,0⟩,
⟨(r_bin .shr s67 s68 0 69),w69,255⟩,
⟨(r_bin .neq s69 (cu 0) 0 70),w70,511⟩] 10)
(.cond s70 (.seq (.region [qMov (cK oF) w6,
qMov (cn 16) w7] 2)
.ret)
.skip)))))))
(.region [qBin bAdd .add s42 (cn 1) w71,
qMov s71 w42] 2)))))))
(.seq (.draw [⟨(r_mov s0 0 72),w72,0⟩,
⟨(r_len s72 0 73),w73,1⟩,
⟨(r_makeSlice 1 8 [du] s73 s73 1 74),w74,3⟩,
⟨(r_mov s0 0 75),w75,0⟩,
⟨(r_len s75 0 76),w76,8⟩,
⟨(r_makeSlice 1 1 [(.sc (.bool false))] s76 s76 0 77),w77,24⟩,
⟨(r_alloc [oF] 0 15),w15,0⟩,
⟨(r_alloc [oF] 0 16),w16,0⟩,
⟨(r_store 1 s15 s74 0 0),wN,199⟩,
⟨(r_store 1 s16 s77 0 0),wN,511⟩] 10)
(.seq (.region [qMov s0 w78,
seqO (r_makeFunc 297 [s4,s16,s15,s9] 0 79) w79,
seqO (r_callF 279 [s78,s79] 0 80) w80] 3)
(.seq (.region [qLd s15 w81,
qLd s15 w82,
seqO (r_len s82 0 83) w83,
qBin bSub .sub s83 (cn 1) w84,
seqO (r_indexAddr 1 s81 s84 0 85) w85,
seqO (r_store 1 s85 (cu 0) 0 0) wN] 6)
(.seq (.region [qLd s15 w86,
qMov s86 w6,
qMov (cn 0) w7] 3)
.ret))))))))),false⟩
def q265:QFn:=⟨1,[.t s2,.t s3,.t s4],
(.seq (.region [seqO (r_box s0 0 1) w1,
seqO (r_mov (cK oF) 65540 2) w2,
qMov (cK oF) w3,
qMov (cn 0) w4] 4)
(.seq (.seq (.region [seqO (r_load 4 true s1 0 10) w10,
seqO (r_callF 298 [s10] 0 11) w11,
qMov s11 w5] 3)
(.seq (.region [qMov s5 w12,
qBin bNeq .neq s12 (cn 0) w13] 2)
(.cond s13 (.seq (.region [qMov s5 w14,
seqO (r_mov (cK oF) 65540 2) w2,
qMov (cK oF) w3,
qMov s14 w4] 4)
.ret)
.skip)))
(.seq (.region [qFad 0 s1 w16,
qLd s16 w17,
seqO (r_callF 299 [s17] 0 18) w18,
qMov s18 w15,
seqO (r_extract s15 0 0 19) w19,
seqO (r_extract s15 1 0 20) w20,
seqO (r_alloc [i0,i0,(.d (.sc (.bool false))),(.d (.sc (.bool false))),i0,i0,(.d (.sc (.bool false))),(.d (.sc (.bool false))),i0,i0,(.d (.sc (.bool false))),(.d (.sc (.bool false)))] 0 6) w6,
seqO (r_store 12 s6 s19 0 0) wN,
qMov s20 w7] 9)
(.seq (.seq (.region [seqO (r_load 4 true s1 0 21) w21,
seqO (r_callF 300 [s21] 0 22) w22,
qMov (cn 0) w23] 3)
(.block 0 (.loop (.seq (.region [qBin bLss .lss s23 (cn 3) w24] 1)
(.seq (.cond s24 .skip
(.exit 0))
(.seq (.block 1 (.seq (.region [qMov s23 w25,
seqO (r_indexA 3 1 false s22 s23 0 26) w26,
qMov s25 w8,
qMov s26 w9] 4)
(.seq (.seq (.region [qMov s8 w27,
seqO (r_indexArr 3 4 s6 s27 0 28) w28,
qFad 2 s28 w29,
qLd s29 w30,
qMov s30 w31,
gdO s31 true w32 (qMov s9 w32),
gdO s31 true w33 (qBin bGeq .geq s32 (cn 0) w33),
qPick s31 s33 cF w34] 8)
(.cond s34 (.region [qMov s2 w35,
qMov s9 w36,
seqO (r_buildSlice 1 1 [di] [(0,s36)] 0 37) w37,
seqO (r_append 1 8 s35 s37 1 38) w38,
seqO (r_mov s38 65540 2) w2] 5)
.skip))
(.seq (.region [qMov s8 w39,
seqO (r_indexArr 3 4 s6 s39 0 40) w40,
qFad 3 s40 w41,
qLd s41 w42,
qMov s42 w43,
gdO s43 true w44 (qMov s9 w44),
gdO s43 true w45 (qBin bGeq .geq s44 (cn 0) w45),
qPick s43 s45 cF w46] 8)
(.cond s46 (.region [qMov s3 w47,
qMov s9 w48,
seqO (r_buildSlice 1 1 [di] [(0,s48)] 0 49) w49,
seqO (r_append 1 8 s47 s49 0 50) w50,
qMov s50 w3] 5)
.skip)))))
(.region [qBin bAdd .add s23 (cn 1) w51,
qMov s51 w23] 2)))))))
(.seq (.region [qMov s2 w52,
qMov s3 w53,
seqO (r_mov s52 65540 2) w2,
qMov s53 w3,
qMov (cn 0) w4] 5)
.ret))))),false⟩
def q266:QFn:=⟨1,[.t s2,.t s3],
(.seq (.region [qMov (cK oF) w2,
qMov (cn 0) w3] 2)
(.seq (.seq (.region [qMov s0 w7,
seqO (r_len s7 0 8) w8,
seqO (r_callF 273 [s8] 0 9) w9,
qMov s9 w4] 4)
(.seq (.region [qMov s4 w10,
qBin bNeq .neq s10 (cn 0) w11] 2)
(.cond s11 (.seq (.region [qMov s4 w12,
qMov (cK oF) w2,
qMov s12 w3] 3)
.ret)
.skip)))
(.seq (.region [qMov (cK oF) w5] 1)
(.seq (.seq (.region [qMov s0 w13,
seqO (r_len s13 0 14) w14,
qMov (cn 0) w15] 3)
(.block 0 (.loop (.seq (.region [qBin bLss .lss s15 s14 w16] 1)
(.seq (.cond s16 .skip
(.exit 0))
(.seq (.block 1 (.seq (.region [qMov s15 w17,
qMov s17 w6] 2)
(.seq (.seq (.draw [⟨(r_mov s6 0 18),w18,0⟩,
⟨(r_bin .gtr s18 (cn 0) 0 19),w19,1⟩,
⟨(r_mov s19 0 20),w20,3⟩,
⟨gdR s20 true (r_mov s0 0 21),w21,7⟩,
⟨gdR s20 true (r_mov s6 0 22),w22,7⟩,
⟨gdR s20 true (r_indexAddr 1 s21 s22 0 23),w23,31⟩,
⟨gdR s20 true (r_load 1 false s23 0 24),w24,63⟩,
⟨gdR s20 true (r_mov s0 0 25),w25,7⟩,
⟨gdR s20 true (r_mov s6 0 26),w26,7⟩,
⟨gdR s20 true (r_bin .sub s26 (cn 1) 0 27),w27,263⟩,
⟨gdR s20 true (r_indexAddr 1 s25 s27 0 28),w28,903⟩,
⟨gdR s20 true (r_load 1 false s28 0 29),w29,1927⟩,
⟨gdR s20 true (r_bin .eql s24 s29 0 30),w30,4095⟩,
⟨(r_pick s20 s30 cF 0 31),w31,8191⟩] 14)
(.cond s31 (.exit 1)
.skip))
(.region [qMov s5 w32,
qMov s6 w33,
qMov s0 w34,
qMov s6 w35,
seqO (r_indexAddr 1 s34 s35 0 36) w36,
qLd s36 w37,
seqO (r_build [i0,u0] [(0,1,s33),(1,1,s37)] 0 38) w38,
seqO (r_buildSlice 2 1 [di,du] [(0,s38)] 0 39) w39,
seqO (r_append 2 16 s32 s39 0 40) w40,
qMov s40 w5] 10))))
(.region [qBin bAdd .add s15 (cn 1) w41,
qMov s41 w15] 2)))))))
(.seq (.region [qMov s5 w42,
qMov s42 w2,
qMov (cn 0) w3] 3)
.ret))))),false⟩
def q267:QFn:=⟨2,[.t s4],
(.seq (.region [seqO (r_box s1 0 3) w3,
qMov cF w4] 2)
(.seq (.seq (.region [qFad 0 s3 w9,
qLd s9 w10,
seqO (r_callF 277 [s10] 0 11) w11,
seqO (r_un .not s11 0 12) w12,
qMov s12 w13,
gdO s13 false w14 (qFad 3 s3 w14),
gdO s13 false w15 (qLd s14 w15),
gdO s13 false w16 (seqO (r_len s15 0 16) w16),
gdO s13 false w17 (qBin bGtr .gtr s16 (cn 16) w17),
qPick s13 cT s17 w18,
qMov s18 w19,
gdO s19 false w20 (qFad 3 s3 w20),
gdO s19 false w21 (qLd s20 w21),
gdO s19 false w22 (seqO (r_callF 301 [s21] 0 22) w22),
gdO s19 false w23 (seqO (r_un .not s22 0 23) w23),
qPick s19 cT s23 w24,
qMov s24 w25,
gdO s25 false w26 (qFad 1 s3 w26),
gdO s25 false w27 (qLd s26 w27),
gdO s25 false w28 (qBin bLss .lss s27 (cn 0) w28),
qPick s25 cT s28 w29,
qMov s29 w30,
gdO s30 false w31 (qFad 1 s3 w31),
gdO s30 false w32 (qLd s31 w32),
gdO s30 false w33 (qFad 3 s3 w33),
gdO s30 false w34 (qLd s33 w34),
gdO s30 false w35 (seqO (r_len s34 0 35) w35),
gdO s30 false w36 (qBin bGtr .gtr s32 s35 w36),
qPick s30 cT s36 w37,
qMov s37 w38,
gdO s38 false w39 (qFad 2 s3 w39),
gdO s38 false w40 (qLd s39 w40),
gdO s38 false w41 (qBin bLss .lss s40 (cm 0) w41),
qPick s38 cT s41 w42,
qMov s42 w43,
gdO s43 false w44 (qFad 2 s3 w44),
gdO s43 false w45 (qLd s44 w45),
gdO s43 false w46 (qMov s0 w46),
gdO s43 false w47 (seqO (r_len s46 0 47) w47),
gdO s43 false w48 (qBin bGeq .geq s45 s47 w48),
qPick s43 cT s48 w49] 41)
(.cond s49 (.seq (.region [qMov cF w4] 1)
.ret)
.skip))
(.seq (.seq (.region [qFad 3 s3 w50,
qLd s50 w51,
seqO (r_len s51 0 52) w52,
qMov (cn 0) w53] 4)
(.block 0 (.loop (.seq (.region [qBin bLss .lss s53 s52 w54] 1)
(.seq (.cond s54 .skip
(.exit 0))
(.seq (.block 1 (.seq (.region [seqO (r_indexAddr 2 s51 s53 0 55) w55,
seqO (r_load 2 true s55 0 56) w56,
seqO (r_alloc [(.d (.sc (.string ⟨#[]⟩))),i0] 0 6) w6,
seqO (r_store 2 s6 s56 0 0) wN] 4)
(.seq (.region [qFad 1 s6 w57,
qLd s57 w58,
qBin bLss .lss s58 (cn 0) w59,
qMov s59 w60,
gdO s60 false w61 (qFad 1 s6 w61),
gdO s60 false w62 (qLd s61 w62),
gdO s60 false w63 (qMov s0 w63),
gdO s60 false w64 (seqO (r_len s63 0 64) w64),
gdO s60 false w65 (qBin bGeq .geq s62 s64 w65),
qPick s60 cT s65 w66] 10)
(.cond s66 (.seq (.region [qMov cF w4] 1)
.ret)
.skip))))
(.region [qBin bAdd .add s53 (cn 1) w67,
qMov s67 w53] 2)))))))
(.seq (.seq (.region [qFad 4 s3 w68,
qLd s68 w69,
seqO (r_len s69 0 70) w70,
qMov (cn 0) w71] 4)
(.block 2 (.loop (.seq (.region [qBin bLss .lss s71 s70 w72] 1)
(.seq (.cond s72 .skip
(.exit 2))
(.seq (.block 3 (.seq (.region [seqO (r_indexAddr 4 s69 s71 0 73) w73,
seqO (r_load 4 true s73 0 74) w74,
seqO (r_alloc [b0,i0,i0,i0] 0 8) w8,
seqO (r_store 4 s8 s74 0 0) wN] 4)
(.seq (.region [seqO (r_load 4 true s8 0 75) w75,
seqO (r_callF 298 [s75] 0 76) w76,
qBin bNeq .neq s76 (cn 0) w77] 3)
(.cond s77 (.seq (.region [qMov cF w4] 1)
.ret)
.skip))))
(.region [qBin bAdd .add s71 (cn 1) w78,
qMov s78 w71] 2)))))))
(.seq (.region [qFad 5 s3 w79,
qLd s79 w80,
qFad 4 s3 w81,
qLd s81 w82,
seqO (r_len s82 0 83) w83,
seqO (r_callF 245 [s80,s83] 0 84) w84,
qBin bEql .eql s84 (cn 0) w85,
qMov s85 w86,
gdO s86 true w87 (qFad 6 s3 w87),
gdO s86 true w88 (qLd s87 w88),
gdO s86 true w89 (qFad 4 s3 w89),
gdO s86 true w90 (qLd s89 w90),
gdO s86 true w91 (seqO (r_len s90 0 91) w91),
gdO s86 true w92 (seqO (r_callF 245 [s88,s91] 0 92) w92),
gdO s86 true w93 (qBin bEql .eql s92 (cn 0) w93),
qPick s86 s93 cF w94,
qMov s94 w4] 17)
.ret))))),false⟩
def q268:QFn:=⟨2,[],
(.seq (.region [qMov s0 w6,
qMov s1 w7,
seqO (r_len s7 0 8) w8,
seqO (r_call 242 [s6,s8] 0 9) w9] 4)
(.seq (.region [qMov s1 w10,
seqO (r_len s10 0 11) w11,
qMov (cn 0) w12] 3)
(.block 0 (.loop (.seq (.region [qBin bLss .lss s12 s11 w13] 1)
(.seq (.cond s13 .skip
(.exit 0))
(.seq (.block 1 (.seq (.region [seqO (r_indexAddr 2 s10 s12 0 14) w14,
seqO (r_load 2 true s14 0 15) w15,
seqO (r_alloc [(.d (.sc (.string ⟨#[]⟩))),i0] 0 5) w5,
seqO (r_store 2 s5 s15 0 0) wN] 4)
(.seq (.region [qMov s0 w16,
qFad 0 s5 w17,
qLd s17 w18,
seqO (r_call 243 [s16,s18] 0 19) w19] 4)
(.region [qMov s0 w20,
qFad 1 s5 w21,
qLd s21 w22,
seqO (r_call 242 [s20,s22] 0 23) w23] 4))))
(.region [qBin bAdd .add s12 (cn 1) w24,
qMov s24 w12] 2)))))))),true⟩
def q269:QFn:=⟨1,[.t s2],
(.seq (.region [seqO (r_mov (cK oF) 65540 2) w2] 1)
(.seq (.region [seqO (r_alloc [oF] 0 3) w3] 1)
(.seq (.region [seqO (r_makeFunc 302 [s3] 0 5) w5,
qMov s5 w4] 2)
(.seq (.block 0 (.loop (.seq (.seq (.region [qMov s0 w6,
qBin bGeq .geq s6 (cu 128) w7] 2)
(.cond s7 .skip
(.exit 0)))
(.seq (.block 1 (.region [qMov s4 w10,
qMov s0 w11,
seqO (r_conv .u8 s11 0 12) w12,
qBin (bGen .or) .or s12 (cb 128) w13,
seqO (r_callv s10 [s13] 0 14) w14] 5))
(.region [qMov s0 w8,
qBin (bGen .shr) .shr s8 (cu 7) w9,
qMov s9 w0] 3)))))
(.seq (.region [qMov s4 w15,
qMov s0 w16,
seqO (r_conv .u8 s16 0 17) w17,
seqO (r_callv s15 [s17] 0 18) w18] 4)
(.seq (.region [qLd s3 w19,
seqO (r_mov s19 65540 2) w2] 2)
.ret)))))),false⟩
def q270:QFn:=⟨1,[.t s2],
(.seq (.region [qMov (cK oF) w2] 1)
(.seq (.region [qMov s0 w3,
seqO (r_conv .u64 s3 0 4) w4,
qBin (bGen .shl) .shl s4 (cu 1) w5,
qMov s0 w6,
qBin (bGen .shr) .shr s6 (cu 63) w7,
seqO (r_conv .u64 s7 0 8) w8,
qBin (bGen .xor) .xor s5 s8 w9,
seqO (r_call 269 [s9] 0 10) w10,
qMov s10 w2] 9)
.ret)),false⟩
def q271:QFn:=⟨1,[.t s2,.t s3],
(.seq (.region [seqO (r_box s0 0 1) w1,
qMov (cK oF) w2,
qMov (cn 0) w3] 3)
(.seq (.seq (.region [seqO (r_load 4 true s1 0 10) w10,
seqO (r_callF 298 [s10] 0 11) w11,
qMov s11 w4] 3)
(.seq (.region [qMov s4 w12,
qBin bNeq .neq s12 (cn 0) w13] 2)
(.cond s13 (.seq (.region [qMov s4 w14,
qMov (cK oF) w2,
qMov s14 w3] 3)
.ret)
.skip)))
(.seq (.region [qFad 0 s1 w16,
qLd s16 w17,
seqO (r_callF 299 [s17] 0 18) w18,
qMov s18 w15,
seqO (r_extract s15 0 0 19) w19,
seqO (r_extract s15 1 0 20) w20,
seqO (r_alloc [i0,i0,(.d (.sc (.bool false))),(.d (.sc (.bool false))),i0,i0,(.d (.sc (.bool false))),(.d (.sc (.bool false))),i0,i0,(.d (.sc (.bool false))),(.d (.sc (.bool false)))] 0 5) w5,
seqO (r_store 12 s5 s19 0 0) wN,
qMov s20 w6] 9)
(.seq (.region [qFad 0 s1 w21,
qLd s21 w22,
seqO (r_buildSlice 1 1 [db] [(0,s22)] 0 23) w23,
qMov s23 w7] 4)
(.seq (.seq (.region [seqO (r_load 4 true s1 0 24) w24,
seqO (r_callF 300 [s24] 0 25) w25,
qMov (cn 0) w26] 3)
(.block 0 (.loop (.seq (.region [qBin bLss .lss s26 (cn 3) w27] 1)
(.seq (.cond s27 .skip
(.exit 0))
(.seq (.block 1 (.seq (.region [qMov s26 w28,
seqO (r_indexA 3 1 false s25 s26 0 29) w29,
qMov s28 w8,
qMov s29 w9] 4)
(.block 2 (.seq (.region [qMov s8 w36,
qMov s6 w37,
qBin bGeq .geq s36 s37 w38,
qMov s38 w35] 4)
(.cond s35 .skip
(.seq (.region [qMov s8 w40,
seqO (r_indexArr 3 4 s5 s40 0 41) w41,
qFad 0 s41 w42,
qLd s42 w43,
qBin bLss .lss s43 (cn 0) w44,
qMov s44 w39] 6)
(.cond s39 (.region [qMov s7 w45,
qMov s9 w46,
seqO (r_call 270 [s46] 0 47) w47,
seqO (r_append 1 1 s45 s47 0 48) w48,
qMov s48 w7] 5)
(.region [qMov s7 w30,
qMov s9 w31,
seqO (r_conv .u64 s31 0 32) w32,
seqO (r_call 269 [s32] 0 33) w33,
seqO (r_append 1 1 s30 s33 0 34) w34,
qMov s34 w7] 6))))))))
(.region [qBin bAdd .add s26 (cn 1) w49,
qMov s49 w26] 2)))))))
(.seq (.region [qMov s7 w50,
qMov s50 w2,
qMov (cn 0) w3] 3)
.ret)))))),false⟩
def q272:QFn:=⟨2,[.t s4,.t s5],
(.seq (.region [qMov (cK oF) w4,
qMov (cn 0) w5] 2)
(.seq (.seq (.region [qMov s0 w11,
qMov s1 w12,
seqO (r_callF 245 [s11,s12] 0 13) w13,
qMov s13 w6] 4)
(.seq (.region [qMov s6 w14,
qBin bNeq .neq s14 (cn 0) w15] 2)
(.cond s15 (.seq (.region [qMov s6 w16,
qMov (cK oF) w4,
qMov s16 w5] 3)
.ret)
.skip)))
(.seq (.region [qMov s0 w17,
seqO (r_len s17 0 18) w18,
seqO (r_conv .u64 s18 0 19) w19,
seqO (r_call 269 [s19] 65537 20) w20,
qMov s20 w7] 5)
(.seq (.region [qMov (cn 0) w8] 1)
(.seq (.seq (.region [qMov s0 w21,
seqO (r_len s21 0 22) w22,
qMov (cn 0) w23] 3)
(.block 0 (.loop (.seq (.region [qBin bLss .lss s23 s22 w24] 1)
(.seq (.cond s24 .skip
(.exit 0))
(.seq (.block 1 (.seq (.region [seqO (r_indexAddr 2 s21 s23 0 25) w25,
seqO (r_load 2 true s25 0 26) w26,
seqO (r_alloc [i0,u0] 0 10) w10,
seqO (r_store 2 s10 s26 0 0) wN] 4)
(.seq (.region [qMov s7 w27,
qFad 0 s10 w28,
qLd s28 w29,
qMov s8 w30,
qBin bSub .sub s29 s30 w31,
seqO (r_conv .u64 s31 0 32) w32,
seqO (r_call 269 [s32] 0 33) w33,
seqO (r_append 1 1 s27 s33 0 34) w34,
qMov s34 w7] 9)
(.seq (.region [qMov s7 w35,
qFad 1 s10 w36,
qLd s36 w37,
seqO (r_call 269 [s37] 0 38) w38,
seqO (r_append 1 1 s35 s38 0 39) w39,
qMov s39 w7] 6)
(.region [qFad 0 s10 w40,
qLd s40 w41,
qMov s41 w8] 3)))))
(.region [qBin bAdd .add s23 (cn 1) w42,
qMov s42 w23] 2)))))))
(.seq (.region [qMov s7 w43,
qMov s43 w4,
qMov (cn 0) w5] 3)
.ret)))))),false⟩
def q273:QFn:=⟨1,[.t s2],
(.seq (.region [qMov (cn 0) w2] 1)
(.seq (.seq (.region [qMov s0 w3,
qBin bLss .lss s3 (cn 1) w4,
qMov s4 w5,
gdO s5 false w6 (qMov s0 w6),
gdO s5 false w7 (qBin bGtr .gtr s6 (cn 200) w7),
qPick s5 cT s7 w8] 6)
(.cond s8 (.seq (.region [qMov (cn 2) w2] 1)
.ret)
.skip))
(.seq (.region [qMov (cn 0) w2] 1)
.ret))),false⟩
def q274:QFn:=⟨2,[.t s4],
(.seq (.region [qMov cF w4] 1)
(.seq (.seq (.region [qMov s0 w8,
seqO (r_len s8 0 9) w9,
qBin bEql .eql s9 (cn 0) w10,
qMov s10 w11,
gdO s11 false w12 (qMov s0 w12),
gdO s11 false w13 (seqO (r_indexAddr 2 s12 (cn 0) 0 13) w13),
gdO s11 false w14 (qFad 0 s13 w14),
gdO s11 false w15 (qLd s14 w15),
gdO s11 false w16 (qBin bNeq .neq s15 (cn 0) w16),
qPick s11 cT s16 w17,
qMov s17 w18,
gdO s18 false w19 (qMov s0 w19),
gdO s18 false w20 (qMov s0 w20),
gdO s18 false w21 (seqO (r_len s20 0 21) w21),
gdO s18 false w22 (qBin bSub .sub s21 (cn 1) w22),
gdO s18 false w23 (seqO (r_indexAddr 2 s19 s22 0 23) w23),
gdO s18 false w24 (qFad 0 s23 w24),
gdO s18 false w25 (qLd s24 w25),
gdO s18 false w26 (qMov s1 w26),
gdO s18 false w27 (qBin bGeq .geq s25 s26 w27),
qPick s18 cT s27 w28] 21)
(.cond s28 (.seq (.region [qMov cF w4] 1)
.ret)
.skip))
(.seq (.region [qMov s0 w29,
seqO (r_indexAddr 2 s29 (cn 0) 0 30) w30,
seqO (r_load 2 true s30 0 31) w31,
seqO (r_alloc [i0,u0] 0 5) w5,
seqO (r_store 2 s5 s31 0 0) wN] 5)
(.seq (.seq (.region [qMov s0 w32,
seqO (r_slice 2 s32 (some (cn 1)) none none 0 33) w33,
seqO (r_len s33 0 34) w34,
qMov (cn 0) w35] 4)
(.block 0 (.loop (.seq (.region [qBin bLss .lss s35 s34 w36] 1)
(.seq (.cond s36 .skip
(.exit 0))
(.seq (.block 1 (.seq (.region [seqO (r_indexAddr 2 s33 s35 0 37) w37,
seqO (r_load 2 true s37 0 38) w38,
seqO (r_alloc [i0,u0] 0 7) w7,
seqO (r_store 2 s7 s38 0 0) wN] 4)
(.seq (.seq (.region [qFad 0 s7 w39,
qLd s39 w40,
qFad 0 s5 w41,
qLd s41 w42,
qBin bLeq .leq s40 s42 w43,
qMov s43 w44,
gdO s44 false w45 (seqO (r_load 2 true s7 0 45) w45),
gdO s44 false w46 (qFad 0 s7 w46),
gdO s44 false w47 (qLd s46 w47),
gdO s44 false w48 (qFad 1 s5 w48),
gdO s44 false w49 (qLd s48 w49),
gdO s44 false w50 (seqO (r_build [i0,u0] [(0,1,s47),(1,1,s49)] 0 50) w50),
gdO s44 false w51 (seqO (r_eqA false 2 [(0,1),(1,1)] s45 s50 0 51) w51),
qPick s44 cT s51 w52] 14)
(.cond s52 (.seq (.region [qMov cF w4] 1)
.ret)
.skip))
(.region [seqO (r_load 2 true s7 0 53) w53,
seqO (r_store 2 s5 s53 0 0) wN] 2))))
(.region [qBin bAdd .add s35 (cn 1) w54,
qMov s54 w35] 2)))))))
(.seq (.region [qMov cT w4] 1)
.ret))))),false⟩
def q275:QFn:=⟨2,[.t s4],
(.seq (.region [qMov cF w4] 1)
(.seq (.region [qMov s0 w5,
qBin bGeq .geq s5 (cn 0) w6,
qMov s6 w7,
gdO s7 true w8 (qMov s0 w8),
gdO s7 true w9 (qMov s1 w9),
gdO s7 true w10 (qBin bLss .lss s8 s9 w10),
qPick s7 s10 cF w11,
qMov s11 w4] 8)
.ret)),false⟩
def q276:QFn:=⟨1,[.t s2],
(.seq (.region [qMov cF w2] 1)
(.seq (.region [qMov s0 w3,
seqO (r_callF 181 [s3,(cK (.clo 303 []))] 0 4) w4,
seqO (r_un .not s4 0 5) w5,
qMov s5 w2] 4)
.ret)),false⟩
def q277:QFn:=⟨1,[.t s2],
(.seq (.region [qMov cF w2] 1)
(.seq (.seq (.region [qMov s0 w5,
seqO (r_lenS s5 0 6) w6,
qBin bEql .eql s6 (cn 0) w7,
qMov s7 w8,
gdO s8 false w9 (qMov s0 w9),
gdO s8 false w10 (seqO (r_lenS s9 0 10) w10),
gdO s8 false w11 (qBin bGtr .gtr s10 (cn 16) w11),
qPick s8 cT s11 w12,
qMov s12 w13,
gdO s13 false w14 (qMov s0 w14),
gdO s13 false w15 (seqO (r_indexS s14 (cn 0) 0 15) w15),
gdO s13 false w16 (qBin bLeq .leq s15 (cb 57) w16),
qPick s13 cT s16 w17] 13)
(.cond s17 (.seq (.region [qMov cF w2] 1)
.ret)
.skip))
(.seq (.seq (.region [qMov s0 w18,
seqO (r_s2b s18 0 19) w19,
seqO (r_len s19 0 20) w20,
qMov (cn 0) w21] 4)
(.block 0 (.loop (.seq (.region [qBin bLss .lss s21 s20 w22] 1)
(.seq (.cond s22 .skip
(.exit 0))
(.seq (.block 1 (.seq (.region [seqO (r_indexAddr 1 s19 s21 0 23) w23,
qLd s23 w24,
qMov s24 w4] 3)
(.seq (.region [qMov s4 w25,
qBin (bGen .or) .or s25 (cb 32) w26,
qBin bLss .lss s26 (cb 97) w27,
qMov s27 w28,
gdO s28 false w29 (qMov s4 w29),
gdO s28 false w30 (qBin (bGen .or) .or s29 (cb 32) w30),
gdO s28 false w31 (qBin bGtr .gtr s30 (cb 122) w31),
qPick s28 cT s31 w32,
qMov s32 w33,
gdO s33 false w34 (qMov s4 w34),
gdO s33 false w35 (qBin (bGen .and) .and s34 (cb 64) w35),
gdO s33 false w36 (qBin bEql .eql s35 (cb 0) w36),
qPick s33 cT s36 w37,
qMov s37 w38,
gdO s38 true w39 (qMov s4 w39),
gdO s38 true w40 (qBin bLss .lss s39 (cb 48) w40),
gdO s38 true w41 (qMov s40 w41),
gdO s41 false w42 (qMov s4 w42),
gdO s41 false w43 (qBin bGtr .gtr s42 (cb 57) w43),
gdO s38 true w44 (qPick s41 cT s43 w44),
qPick s38 s44 cF w45] 21)
(.cond s45 (.seq (.region [qMov cF w2] 1)
.ret)
.skip))))
(.region [qBin bAdd .add s21 (cn 1) w46,
qMov s46 w21] 2)))))))
(.seq (.region [qMov cT w2] 1)
.ret)))),false⟩
def q278:QFn:=⟨1,[.t s2],
(.seq (.region [qMov (cn 0) w2] 1)
(.seq (.region [qMov s0 w6,
seqO (r_len s6 0 7) w7,
qMov s7 w3] 3)
(.seq (.seq (.region [qMov s3 w8,
qBin bEql .eql s8 (cn 0) w9,
qMov s9 w10,
gdO s10 false w11 (qMov s3 w11),
gdO s10 false w12 (qBin bGtr .gtr s11 (cn 200) w12),
qPick s10 cT s12 w13,
qMov s13 w14,
gdO s14 false w15 (qMov s0 w15),
gdO s14 false w16 (qMov s3 w16),
gdO s14 false w17 (qBin bSub .sub s16 (cn 1) w17),
gdO s14 false w18 (seqO (r_indexAddr 4 s15 s17 0 18) w18),
gdO s14 false w19 (seqO (r_load 4 true s18 0 19) w19),
gdO s14 false w20 (seqO (r_build [b0,i0,i0,i0] [(0,1,(cb 34)),(1,1,(cm 0))] 0 20) w20),
gdO s14 false w21 (seqO (r_eqA true 4 [(0,1),(1,1),(2,1),(3,1)] s19 s20 0 21) w21),
qPick s14 cT s21 w22] 15)
(.cond s22 (.seq (.region [qMov (cn 8) w2] 1)
.ret)
.skip))
(.seq (.seq (.region [qMov s0 w23,
seqO (r_len s23 0 24) w24,
qMov (cn 0) w25] 3)
(.block 0 (.loop (.seq (.region [qBin bLss .lss s25 s24 w26] 1)
(.seq (.cond s26 .skip
(.exit 0))
(.seq (.block 1 (.seq (.region [seqO (r_indexAddr 4 s23 s25 0 27) w27,
seqO (r_load 4 true s27 0 28) w28,
seqO (r_alloc [b0,i0,i0,i0] 0 5) w5,
seqO (r_store 4 s5 s28 0 0) wN] 4)
(.seq (.seq (.region [seqO (r_load 4 true s5 0 29) w29,
seqO (r_callF 298 [s29] 0 30) w30,
qBin bNeq .neq s30 (cn 0) w31] 3)
(.cond s31 (.seq (.region [qMov (cn 8) w2] 1)
.ret)
.skip))
(.seq (.region [qFad 0 s5 w32,
qLd s32 w33,
qBin bEql .eql s33 (cb 22) w34,
qMov s34 w35,
gdO s35 true w36 (qFad 1 s5 w36),
gdO s35 true w37 (qLd s36 w37),
gdO s35 true w38 (qMov s3 w38),
gdO s35 true w39 (qBin bGeq .geq s37 s38 w39),
qPick s35 s39 cF w40,
qMov s40 w41,
gdO s41 false w42 (qFad 0 s5 w42),
gdO s41 false w43 (qLd s42 w43),
gdO s41 false w44 (qBin bEql .eql s43 (cb 23) w44),
gdO s41 false w45 (qMov s44 w45),
gdO s45 true w46 (qFad 2 s5 w46),
gdO s45 true w47 (qLd s46 w47),
gdO s45 true w48 (qMov s3 w48),
gdO s45 true w49 (qBin bGeq .geq s47 s48 w49),
gdO s41 false w50 (qPick s45 s49 cF w50),
qPick s41 cT s50 w51] 20)
(.cond s51 (.seq (.region [qMov (cn 8) w2] 1)
.ret)
.skip)))))
(.region [qBin bAdd .add s25 (cn 1) w52,
qMov s52 w25] 2)))))))
(.seq (.region [qMov (cn 0) w2] 1)
.ret))))),false⟩
def q279:QFn:=⟨2,[],
(.seq (.region [qMov s1 w8,
seqO (r_callv s8 [(cn 0),(cm 0)] 0 9) w9] 2)
(.seq (.region [seqO (r_buildSlice 1 1 [di] [(0,(cn 0))] 1 10) w10,
qMov s10 w4] 2)
(.block 0 (.loop (.seq (.seq (.region [qMov s4 w11,
seqO (r_len s11 0 12) w12,
qBin bGtr .gtr s12 (cn 0) w13] 3)
(.cond s13 .skip
(.exit 0)))
(.block 1 (.seq (.region [qMov s4 w14,
qMov s4 w15,
seqO (r_len s15 0 16) w16,
qBin bSub .sub s16 (cn 1) w17,
seqO (r_indexAddr 1 s14 s17 0 18) w18,
qLd s18 w19,
qMov s19 w5] 7)
(.seq (.region [qMov s4 w20,
qMov s4 w21,
seqO (r_len s21 0 22) w22,
qBin bSub .sub s22 (cn 1) w23,
seqO (r_slice 1 s20 none (some s23) none 3 24) w24,
qMov s24 w4] 6)
(.seq (.region [qMov s0 w25,
qMov s5 w26,
seqO (r_call 304 [s25,s26] 0 27) w27,
seqO (r_len s27 0 28) w28,
qMov (cn 0) w29] 5)
(.block 2 (.loop (.seq (.region [qBin bLss .lss s29 s28 w30] 1)
(.seq (.cond s30 .skip
(.exit 2))
(.seq (.block 3 (.seq (.region [seqO (r_indexAddr 1 s27 s29 0 31) w31,
qLd s31 w32,
qMov s32 w7] 3)
(.seq (.region [qMov s1 w33,
qMov s7 w34,
qMov s5 w35,
seqO (r_callv s33 [s34,s35] 0 36) w36] 4)
(.cond s36 (.region [qMov s4 w37,
qMov s7 w38,
seqO (r_buildSlice 1 1 [di] [(0,s38)] 0 39) w39,
seqO (r_append 1 8 s37 s39 1 40) w40,
qMov s40 w4] 5)
.skip))))
(.region [qBin bAdd .add s29 (cn 1) w41,
qMov s41 w29] 2))))))))))))))),true⟩
def q280:QFn:=⟨3,[.t s5],
(.seq (.region [qMov cF w5] 1)
(.seq (.region [qLd s2 w7,
qMov s0 w8,
seqO (r_indexAddr 1 s7 s8 0 9) w9,
qLd s9 w10,
qMov s10 w6] 5)
(.seq (.region [qLd s2 w11,
qMov s0 w12,
seqO (r_indexAddr 1 s11 s12 0 13) w13,
seqO (r_store 1 s13 cT 0 0) wN] 4)
(.seq (.region [qMov s6 w14,
seqO (r_un .not s14 0 15) w15,
qMov s15 w5] 3)
.ret)))),true⟩
def q281:QFn:=⟨2,[.t s4],
(.seq (.region [qMov cF w4] 1)
(.seq (.region [qMov s1 w5,
qBin bGeq .geq s5 (cn 0) w6,
qMov s6 w7,
gdO s7 true w8 (qMov s1 w8),
gdO s7 true w9 (qMov s0 w9),
gdO s7 true w10 (seqO (r_len s9 0 10) w10),
gdO s7 true w11 (qBin bLss .lss s8 s10 w11),
qPick s7 s11 cF w12,
qMov s12 w4] 9)
.ret)),false⟩
def q282:QFn:=⟨1,[.t s2],
(.seq (.region [seqO (r_box s0 0 1) w1,
qMov (cn 0) w2] 2)
(.seq (.seq (.region [qFad 0 s1 w3,
qLd s3 w4] 2)
(.block 0 (.seq (.region [qBin bEql .eql s4 (cb 25) w6,
qMov s6 w5] 2)
(.cond s5 (.seq (.region [qFad 2 s1 w7,
qLd s7 w8,
qMov s8 w2] 3)
.ret)
(.seq (.seq (.region [qBin bEql .eql s4 (cb 26) w10,
qMov s10 w9] 2)
(.cond s9 .skip
(.region [qBin bEql .eql s4 (cb 27) w11,
qMov s11 w9] 2)))
(.cond s9 (.seq (.region [qFad 1 s1 w12,
qLd s12 w13,
qMov s13 w2] 3)
.ret)
.skip))))))
(.seq (.region [qMov (cm 0) w2] 1)
.ret))),false⟩
def q283:QFn:=⟨2,[.t s4],
(.seq (.region [qMov cF w4] 1)
(.seq (.region [qMov s1 w5,
qBin bGeq .geq s5 (cn 0) w6,
qMov s6 w7,
gdO s7 true w8 (qMov s1 w8),
gdO s7 true w9 (qMov s0 w9),
gdO s7 true w10 (seqO (r_len s9 0 10) w10),
gdO s7 true w11 (qBin bLss .lss s8 s10 w11),
qPick s7 s11 cF w12,
qMov s12 w4] 9)
.ret)),false⟩
def q284:QFn:=⟨2,[.t s4],
(.seq (.region [seqO (r_box s0 0 2) w2,
qMov (cn 0) w4] 2)
(.seq (.seq (.region [qFad 3 s2 w5,
qFad 3 s5 w6,
qLd s6 w7,
qMov s1 w8,
seqO (r_callF 281 [s7,s8] 0 9) w9,
seqO (r_un .not s9 0 10) w10] 6)
(.cond s10 (.seq (.region [qMov (cm 0) w4] 1)
.ret)
.skip))
(.seq (.region [qFad 3 s2 w11,
qFad 3 s11 w12,
qLd s12 w13,
qMov s1 w14,
seqO (r_indexAddr 2 s13 s14 0 15) w15,
qFad 1 s15 w16,
qLd s16 w17,
qMov s17 w4] 8)
.ret))),false⟩
def q285:QFn:=⟨2,[.t s3],
(.seq (.region [qMov cF w3] 1)
(.seq (.region [qMov s0 w4,
seqO (r_makeFunc 286 [s1] 0 5) w5,
seqO (r_callF 181 [s4,s5] 0 6) w6,
seqO (r_un .not s6 0 7) w7,
qMov s7 w3] 5)
.ret)),true⟩
def q286:QFn:=⟨2,[.t s3],
(.seq (.region [qMov cF w3] 1)
(.seq (.region [seqO (r_load 10 true s1 0 4) w4,
qMov s0 w5,
seqO (r_buildSlice 1 1 [db] [(0,(cb 2))] 2 6) w6,
seqO (r_callF 287 [s4,s5,s6] 0 7) w7,
seqO (r_un .not s7 0 8) w8,
qMov s8 w3] 6)
.ret)),true⟩
def q287:QFn:=⟨3,[.t s6],
(.seq (.region [seqO (r_box s0 0 3) w3,
qMov cF w6] 2)
(.seq (.region [qMov s1 w7,
qBin bGeq .geq s7 (cn 0) w8,
qMov s8 w9,
gdO s9 true w10 (qMov s2 w10),
gdO s9 true w11 (qFad 0 s3 w11),
gdO s9 true w12 (qFad 0 s11 w12),
gdO s9 true w13 (qLd s12 w13),
gdO s9 true w14 (qMov s1 w14),
gdO s9 true w15 (seqO (r_indexAddr 4 s13 s14 0 15) w15),
gdO s9 true w16 (qFad 0 s15 w16),
gdO s9 true w17 (qLd s16 w17),
gdO s9 true w18 (seqO (r_callF 305 [s10,s17] 0 18) w18),
qPick s9 s18 cF w19,
qMov s19 w6] 14)
.ret)),false⟩
def q288:QFn:=⟨2,[.t s3],
(.seq (.region [qMov cF w3] 1)
(.seq (.region [seqO (r_load 10 true s1 0 4) w4,
qMov s0 w5,
seqO (r_buildSlice 1 1 [db] [(0,(cb 1))] 2 6) w6,
seqO (r_callF 287 [s4,s5,s6] 0 7) w7,
qMov s7 w3] 5)
.ret)),true⟩
def q291:QFn:=⟨2,[.t s4],
(.seq (.region [seqO (r_box s0 0 2) w2,
seqO (r_box s1 0 3) w3,
qMov cF w4] 3)
(.seq (.region [seqO (r_makeFunc 306 [s2] 0 6) w6,
qMov s6 w5] 2)
(.seq (.region [qFad 2 s3 w7,
qLd s7 w8,
qBin bLss .lss s8 (cn 0) w9,
qMov s9 w10,
gdO s10 true w11 (qFad 1 s3 w11),
gdO s10 true w12 (qLd s11 w12),
gdO s10 true w13 (qBin bEql .eql s12 (cn 0) w13),
gdO s10 true w14 (qMov s13 w14),
gdO s14 false w15 (qFad 1 s3 w15),
gdO s14 false w16 (qLd s15 w16),
gdO s14 false w17 (qBin bEql .eql s16 (cn 1) w17),
gdO s14 false w18 (qMov s17 w18),
gdO s18 true w19 (qMov s5 w19),
gdO s18 true w20 (qFad 3 s3 w20),
gdO s18 true w21 (qLd s20 w21),
gdO s18 true w22 (seqO (r_indexAddr 2 s21 (cn 0) 0 22) w22),
gdO s18 true w23 (qFad 1 s22 w23),
gdO s18 true w24 (qLd s23 w24),
gdO s18 true w25 (seqO (r_callv s19 [s24] 0 25) w25),
gdO s14 false w26 (qPick s18 s25 cF w26),
gdO s10 true w27 (qPick s14 cT s26 w27),
qPick s10 s27 cF w28,
qMov s28 w4] 23)
.ret))),false⟩
def q292:QFn:=⟨3,[.t s6,.t s7],
(.seq (.region [seqO (r_box s0 0 3) w3,
seqO (r_box s1 0 4) w4,
qMov (cK oF) w6,
qMov cF w7] 4)
(.seq (.seq (.region [qFad 0 s4 w15,
qLd s15 w16,
qBin bEql .eql s16 (cb 24) w17] 3)
(.cond s17 (.draw [⟨(r_mov s2 0 18),w18,0⟩,
⟨(r_call 307 [s18] 65537 19),w19,1⟩,
⟨(r_load 10 true s3 0 20),w20,0⟩,
⟨(r_fieldAddr 1 s4 0 21),w21,0⟩,
⟨(r_load 1 false s21 0 22),w22,8⟩,
⟨(r_callF 284 [s20,s22] 0 23),w23,31⟩,
⟨(r_buildSlice 1 1 [di] [(0,s23)] 0 24),w24,63⟩,
⟨(r_append 1 8 s19 s24 0 25),w25,127⟩,
⟨(r_mov s25 0 2),w2,255⟩] 9)
.skip))
(.seq (.seq (.region [seqO (r_load 4 true s4 0 26) w26,
seqO (r_callF 282 [s26] 0 27) w27,
qMov s27 w8] 3)
(.seq (.region [qMov s8 w28,
qBin bGeq .geq s28 (cn 0) w29] 2)
(.cond s29 (.seq (.region [qFad 0 s3 w30,
qFad 2 s30 w31,
qLd s31 w32,
qMov s8 w33,
seqO (r_indexAddr 7 s32 s33 0 34) w34,
seqO (r_load 7 true s34 0 35) w35,
seqO (r_alloc [(.d (.sc (.string ⟨#[]⟩))),i0,i0,oF,oF,oF,oF] 0 9) w9,
seqO (r_store 7 s9 s35 0 0) wN] 8)
(.seq (.region [qMov s2 w36,
seqO (r_len s36 0 37) w37,
qFad 1 s9 w38,
qLd s38 w39,
qBin bSub .sub s37 s39 w40,
qMov s40 w10] 6)
(.seq (.seq (.region [qMov s10 w41,
qBin bLss .lss s41 (cn 0) w42] 2)
(.cond s42 (.seq (.region [qMov (cK oF) w6,
qMov cF w7] 2)
.ret)
.skip))
(.seq (.seq (.region [qMov s2 w43,
qMov s10 w44,
seqO (r_slice 1 s43 (some s44) none none 0 45) w45,
seqO (r_len s45 0 46) w46,
qMov (cn 0) w47] 5)
(.block 0 (.loop (.seq (.region [qBin bLss .lss s47 s46 w48] 1)
(.seq (.cond s48 .skip
(.exit 0))
(.seq (.block 1 (.seq (.region [qMov s47 w49,
seqO (r_indexAddr 1 s45 s47 0 50) w50,
qLd s50 w51,
qMov s49 w11,
qMov s51 w12] 5)
(.seq (.region [qFad 3 s9 w52,
qLd s52 w53,
qMov s11 w54,
seqO (r_indexAddr 2 s53 s54 0 55) w55,
qFad 1 s55 w56,
qLd s56 w57,
qMov s12 w58,
qBin bNeq .neq s57 s58 w59] 8)
(.cond s59 (.seq (.region [qMov (cK oF) w6,
qMov cF w7] 2)
.ret)
.skip))))
(.region [qBin bAdd .add s47 (cn 1) w60,
qMov s60 w47] 2)))))))
(.region [qMov s2 w61,
qMov s10 w62,
seqO (r_slice 1 s61 none (some s62) none 3 63) w63,
qMov s63 w2] 4)))))
.skip)))
(.seq (.region [seqO (r_load 10 true s3 0 65) w65,
qMov s2 w66,
seqO (r_callF 295 [s65,s66] 0 67) w67,
qMov s67 w64,
seqO (r_extract s64 0 0 68) w68,
seqO (r_extract s64 1 0 69) w69,
qMov s68 w13,
qMov s69 w14] 8)
(.seq (.region [qMov s2 w70,
qMov s14 w71,
qBin bEql .eql s71 (cn 0) w72,
qMov s72 w73,
gdO s73 true w74 (qMov s13 w74),
gdO s73 true w75 (qBin bLeq .leq s74 (cn 4096) w75),
qPick s73 s75 cF w76,
qMov s70 w6,
qMov s76 w7] 9)
.ret))))),false⟩
def q293:QFn:=⟨2,[.t s4,.t s5],
(.seq (.region [qMov (cK oF) w4,
qMov (cn 0) w5] 2)
(.seq (.seq (.region [qMov s0 w7,
seqO (r_callF 278 [s7] 0 8) w8,
qMov s8 w6] 3)
(.seq (.region [qMov s6 w9,
qBin bNeq .neq s9 (cn 0) w10] 2)
(.cond s10 (.seq (.region [qMov s6 w11,
qMov (cK oF) w4,
qMov s11 w5] 3)
.ret)
.skip)))
(.seq (.seq (.region [qMov s1 w12,
qBin bLss .lss s12 (cn 0) w13,
qMov s13 w14,
gdO s14 false w15 (qMov s1 w15),
gdO s14 false w16 (qMov s0 w16),
gdO s14 false w17 (seqO (r_len s16 0 17) w17),
gdO s14 false w18 (qBin bGeq .geq s15 s17 w18),
qPick s14 cT s18 w19] 8)
(.cond s19 (.seq (.region [qMov (cK oF) w4,
qMov (cn 2) w5] 2)
.ret)
.skip))
(.seq (.region [qMov s0 w20,
qMov s1 w21,
seqO (r_call 304 [s20,s21] 0 22) w22,
qMov s22 w4,
qMov (cn 0) w5] 5)
.ret)))),false⟩
def q294:QFn:=⟨2,[.t s4],
(.seq (.region [qMov cF w4] 1)
(.seq (.seq (.region [qMov s0 w6,
seqO (r_len s6 0 7) w7,
qMov s1 w8,
seqO (r_len s8 0 9) w9,
qBin bNeq .neq s7 s9 w10] 5)
(.cond s10 (.seq (.region [qMov cF w4] 1)
.ret)
.skip))
(.seq (.seq (.region [qMov s0 w11,
seqO (r_len s11 0 12) w12,
qMov (cn 0) w13] 3)
(.block 0 (.loop (.seq (.region [qBin bLss .lss s13 s12 w14] 1)
(.seq (.cond s14 .skip
(.exit 0))
(.seq (.block 1 (.seq (.region [qMov s13 w15,
qMov s15 w5] 2)
(.seq (.draw [⟨(r_mov s0 0 16),w16,0⟩,
⟨(r_mov s5 0 17),w17,0⟩,
⟨(r_indexAddr 1 s16 s17 0 18),w18,3⟩,
⟨(r_load 1 false s18 0 19),w19,7⟩,
⟨(r_mov s1 0 20),w20,0⟩,
⟨(r_mov s5 0 21),w21,0⟩,
⟨(r_indexAddr 1 s20 s21 0 22),w22,48⟩,
⟨(r_load 1 false s22 0 23),w23,112⟩,
⟨(r_bin .neq s19 s23 0 24),w24,255⟩] 9)
(.cond s24 (.seq (.region [qMov cF w4] 1)
.ret)
.skip))))
(.region [qBin bAdd .add s13 (cn 1) w25,
qMov s25 w13] 2)))))))
(.seq (.region [qMov cT w4] 1)
.ret)))),false⟩
def q295:QFn:=⟨2,[.t s4,.t s5],
(.seq (.region [seqO (r_box s0 0 2) w2,
qMov (cn 0) w4,
qMov (cn 0) w5] 3)
(.seq (.region [qMov (cn 0) w6] 1)
(.seq (.seq (.region [qMov s1 w12,
seqO (r_len s12 0 13) w13,
qMov (cn 0) w14] 3)
(.block 0 (.loop (.seq (.region [qBin bLss .lss s14 s13 w15] 1)
(.seq (.cond s15 .skip
(.exit 0))
(.seq (.block 1 (.seq (.region [seqO (r_indexAddr 1 s12 s14 0 16) w16,
qLd s16 w17,
qMov s17 w8] 3)
(.seq (.region [qFad 0 s2 w19,
qFad 0 s19 w20,
qLd s20 w21,
qMov s8 w22,
seqO (r_callF 132 [s21,s22] 0 23) w23,
qMov s23 w18,
seqO (r_extract s18 0 0 24) w24,
seqO (r_extract s18 1 0 25) w25,
seqO (r_extract s18 2 0 26) w26,
qMov s24 w9,
qMov s25 w10,
qMov s26 w11] 12)
(.seq (.seq (.region [qMov s11 w27,
qBin bNeq .neq s27 (cn 0) w28] 2)
(.cond s28 (.seq (.region [qMov s11 w29,
qMov (cn 0) w4,
qMov s29 w5] 3)
.ret)
.skip))
(.seq (.region [qMov s9 w31,
seqO (r_callF 124 [s31] 0 32) w32,
qMov s32 w30,
seqO (r_extract s30 0 0 33) w33,
seqO (r_extract s30 1 0 34) w34,
qMov s33 w9,
qMov s34 w11] 7)
(.seq (.seq (.region [qMov s11 w35,
qBin bNeq .neq s35 (cn 0) w36] 2)
(.cond s36 (.seq (.region [qMov s11 w37,
qMov (cn 0) w4,
qMov s37 w5] 3)
.ret)
.skip))
(.region [qMov s6 w38,
qMov s9 w39,
qBin bAdd .add s38 s39 w40,
qMov s40 w6] 4)))))))
(.region [qBin bAdd .add s14 (cn 1) w41,
qMov s41 w14] 2)))))))
(.seq (.region [qMov s6 w42,
qMov s42 w4,
qMov (cn 0) w5] 3)
.ret)))),false⟩
def q296:QFn:=⟨1,[.t s2],
(.seq (.region [qMov (cu 0) w2] 1)
(.seq (.region [qMov (cu 0) w3] 1)
(.seq (.seq (.region [qMov s0 w6,
seqO (r_len s6 0 7) w7,
qMov (cn 0) w8] 3)
(.block 0 (.loop (.seq (.region [qBin bLss .lss s8 s7 w9] 1)
(.seq (.cond s9 .skip
(.exit 0))
(.seq (.block 1 (.seq (.region [seqO (r_indexAddr 1 s6 s8 0 10) w10,
qLd s10 w11,
qMov s11 w5] 3)
(.region [qMov s3 w12,
qMov s5 w13,
qBin (bGen .shl) .shl (cu 1) s13 w14,
qBin (bGen .or) .or s12 s14 w15,
qMov s15 w3] 5)))
(.region [qBin bAdd .add s8 (cn 1) w16,
qMov s16 w8] 2)))))))
(.seq (.region [qMov s3 w17,
qMov s17 w2] 2)
.ret)))),false⟩
def q297:QFn:=⟨6,[.t s8],
(.seq (.region [qMov cF w8] 1)
(.seq (.seq (.region [qMov s1 w11,
qBin bLss .lss s11 (cn 0) w12] 2)
(.cond s12 (.seq (.draw [⟨(r_load 1 false s3 0 13),w13,0⟩,
⟨(r_mov s0 0 14),w14,0⟩,
⟨(r_load 1 false s4 0 15),w15,0⟩,
⟨(r_mov s0 0 16),w16,0⟩,
⟨(r_load 1 false s2 0 17),w17,0⟩,
⟨(r_bin .shl (cu 1) s17 0 18),w18,16⟩,
⟨(r_bin .sub s18 (cu 1) 0 19),w19,48⟩,
⟨(r_indexAddr 1 s13 s14 0 20),w20,3⟩,
⟨(r_store 1 s20 cT 0 0),wN,131⟩,
⟨(r_indexAddr 1 s15 s16 0 21),w21,511⟩,
⟨(r_store 1 s21 s19 0 0),wN,1023⟩] 11)
(.seq (.region [qMov cT w8] 1)
.ret))
.skip))
(.seq (.draw [⟨(r_load 1 false s4 0 22),w22,0⟩,
⟨(r_mov s1 0 23),w23,0⟩,
⟨(r_indexAddr 1 s22 s23 0 24),w24,3⟩,
⟨(r_load 1 false s24 0 25),w25,7⟩,
⟨(r_load 1 false s5 0 26),w26,0⟩,
⟨(r_mov s1 0 27),w27,0⟩,
⟨(r_indexAddr 1 s26 s27 0 28),w28,48⟩,
⟨(r_load 1 false s28 0 29),w29,112⟩,
⟨(r_bin .or s25 s29 0 30),w30,255⟩,
⟨(r_mov s30 0 9),w9,511⟩] 10)
(.seq (.seq (.region [qLd s3 w31,
qMov s0 w32,
seqO (r_indexAddr 1 s31 s32 0 33) w33,
qLd s33 w34,
seqO (r_un .not s34 0 35) w35] 5)
(.cond s35 (.seq (.draw [⟨(r_load 1 false s3 0 36),w36,0⟩,
⟨(r_mov s0 0 37),w37,0⟩,
⟨(r_load 1 false s4 0 38),w38,0⟩,
⟨(r_mov s0 0 39),w39,0⟩,
⟨(r_mov s9 0 40),w40,0⟩,
⟨(r_indexAddr 1 s36 s37 0 41),w41,3⟩,
⟨(r_store 1 s41 cT 0 0),wN,35⟩,
⟨(r_indexAddr 1 s38 s39 0 42),w42,127⟩,
⟨(r_store 1 s42 s40 0 0),wN,255⟩] 9)
(.seq (.region [qMov cT w8] 1)
.ret))
.skip))
(.seq (.region [qLd s4 w43,
qMov s0 w44,
seqO (r_indexAddr 1 s43 s44 0 45) w45,
qLd s45 w46,
qMov s46 w10] 5)
(.seq (.region [qLd s4 w47,
qMov s0 w48,
seqO (r_indexAddr 1 s47 s48 0 49) w49,
qLd s49 w50,
qMov s9 w51,
qBin (bGen .and) .and s50 s51 w52,
seqO (r_indexAddr 1 s47 s48 0 53) w53,
seqO (r_store 1 s53 s52 0 0) wN] 8)
(.seq (.region [qLd s4 w54,
qMov s0 w55,
seqO (r_indexAddr 1 s54 s55 0 56) w56,
qLd s56 w57,
qMov s10 w58,
qBin bNeq .neq s57 s58 w59,
qMov s59 w8] 7)
.ret))))))),true⟩
def q298:QFn:=⟨1,[.t s2],
(.seq (.region [seqO (r_box s0 0 1) w1,
qMov (cn 0) w2] 2)
(.seq (.region [qFad 0 s1 w8,
qLd s8 w9,
seqO (r_callF 299 [s9] 0 10) w10,
qMov s10 w7,
seqO (r_extract s7 0 0 11) w11,
seqO (r_extract s7 1 0 12) w12,
seqO (r_alloc [i0,i0,(.d (.sc (.bool false))),(.d (.sc (.bool false))),i0,i0,(.d (.sc (.bool false))),(.d (.sc (.bool false))),i0,i0,(.d (.sc (.bool false))),(.d (.sc (.bool false)))] 0 3) w3,
seqO (r_store 12 s3 s11 0 0) wN,
qMov s12 w4] 9)
(.seq (.seq (.region [qMov s4 w13,
qBin bLss .lss s13 (cn 0) w14] 2)
(.cond s14 (.seq (.region [qMov (cn 8) w2] 1)
.ret)
.skip))
(.seq (.seq (.region [seqO (r_load 4 true s1 0 15) w15,
seqO (r_callF 300 [s15] 0 16) w16,
qMov (cn 0) w17] 3)
(.block 0 (.loop (.seq (.region [qBin bLss .lss s17 (cn 3) w18] 1)
(.seq (.cond s18 .skip
(.exit 0))
(.seq (.block 1 (.seq (.region [qMov s17 w19,
seqO (r_indexA 3 1 false s16 s17 0 20) w20,
qMov s19 w5,
qMov s20 w6] 4)
(.seq (.region [qMov s6 w21,
qMov s5 w22,
seqO (r_indexArr 3 4 s3 s22 0 23) w23,
qFad 0 s23 w24,
qLd s24 w25,
qBin bLss .lss s21 s25 w26,
qMov s26 w27,
gdO s27 false w28 (qMov s6 w28),
gdO s27 false w29 (qMov s5 w29),
gdO s27 false w30 (seqO (r_indexArr 3 4 s3 s29 0 30) w30),
gdO s27 false w31 (qFad 1 s30 w31),
gdO s27 false w32 (qLd s31 w32),
gdO s27 false w33 (qBin bGtr .gtr s28 s32 w33),
qPick s27 cT s33 w34] 14)
(.cond s34 (.seq (.region [qMov (cn 8) w2] 1)
.ret)
.skip))))
(.region [qBin bAdd .add s17 (cn 1) w35,
qMov s35 w17] 2)))))))
(.seq (.region [qMov (cn 0) w2] 1)
.ret))))),false⟩
def q299:QFn:=⟨1,[.cell s2 12 true,.cell s3 1 false],
(.seq (.region [seqO (r_alloc [i0,i0,(.d (.sc (.bool false))),(.d (.sc (.bool false))),i0,i0,(.d (.sc (.bool false))),(.d (.sc (.bool false))),i0,i0,(.d (.sc (.bool false))),(.d (.sc (.bool false)))] 0 2) w2,
seqO (r_alloc [i0] 0 3) w3] 2)
(.seq (.region [seqO (r_makeFunc 308 [s2,s3] 0 5) w5,
qMov s5 w4] 2)
(.seq (.seq (.region [qMov s0 w6] 1)
(.block 0 (.seq (.block 19 (.seq (.block 18 (.seq (.block 17 (.seq (.block 16 (.seq (.block 15 (.seq (.block 14 (.seq (.block 13 (.seq (.block 12 (.seq (.block 11 (.seq (.block 10 (.seq (.block 9 (.seq (.block 8 (.seq (.block 7 (.seq (.block 6 (.seq (.block 5 (.seq (.block 4 (.seq (.block 3 (.seq (.block 2 (.seq (.block 1 (.seq (.seq (.seq (.seq (.region [qBin bEql .eql s6 (cb 30) w8,
qMov s8 w7] 2)
(.cond s7 .skip
(.region [qBin bEql .eql s6 (cb 31) w9,
qMov s9 w7] 2)))
(.cond s7 (.exit 1)
.skip))
(.seq (.seq (.region [qBin bEql .eql s6 (cb 1) w11,
qMov s11 w10] 2)
(.cond s10 (.exit 2)
.skip))
(.seq (.seq (.region [qBin bEql .eql s6 (cb 2) w13,
qMov s13 w12] 2)
(.cond s12 (.exit 3)
.skip))
(.seq (.seq (.region [qBin bEql .eql s6 (cb 3) w15,
qMov s15 w14] 2)
(.cond s14 (.exit 4)
.skip))
(.seq (.seq (.seq (.region [qBin bEql .eql s6 (cb 4) w17,
qMov s17 w16] 2)
(.cond s16 .skip
(.region [qBin bEql .eql s6 (cb 15) w18,
qMov s18 w16] 2)))
(.cond s16 (.exit 5)
.skip))
(.seq (.seq (.seq (.region [qBin bEql .eql s6 (cb 6) w20,
qMov s20 w19] 2)
(.cond s19 .skip
(.seq (.region [qBin bEql .eql s6 (cb 7) w21,
qMov s21 w19] 2)
(.cond s19 .skip
(.seq (.region [qBin bEql .eql s6 (cb 8) w22,
qMov s22 w19] 2)
(.cond s19 .skip
(.seq (.region [qBin bEql .eql s6 (cb 9) w23,
qMov s23 w19] 2)
(.cond s19 .skip
(.seq (.region [qBin bEql .eql s6 (cb 10) w24,
qMov s24 w19] 2)
(.cond s19 .skip
(.seq (.region [qBin bEql .eql s6 (cb 11) w25,
qMov s25 w19] 2)
(.cond s19 .skip
(.region [qBin bEql .eql s6 (cb 19) w26,
qMov s26 w19] 2)))))))))))))
(.cond s19 (.exit 6)
.skip))
(.seq (.seq (.seq (.region [qBin bEql .eql s6 (cb 5) w28,
qMov s28 w27] 2)
(.cond s27 .skip
(.seq (.region [qBin bEql .eql s6 (cb 12) w29,
qMov s29 w27] 2)
(.cond s27 .skip
(.seq (.region [qBin bEql .eql s6 (cb 16) w30,
qMov s30 w27] 2)
(.cond s27 .skip
(.seq (.region [qBin bEql .eql s6 (cb 18) w31,
qMov s31 w27] 2)
(.cond s27 .skip
(.seq (.region [qBin bEql .eql s6 (cb 21) w32,
qMov s32 w27] 2)
(.cond s27 .skip
(.region [qBin bEql .eql s6 (cb 33) w33,
qMov s33 w27] 2)))))))))))
(.cond s27 (.exit 7)
.skip))
(.seq (.seq (.region [qBin bEql .eql s6 (cb 13) w35,
qMov s35 w34] 2)
(.cond s34 (.exit 8)
.skip))
(.seq (.seq (.region [qBin bEql .eql s6 (cb 14) w37,
qMov s37 w36] 2)
(.cond s36 (.exit 9)
.skip))
(.seq (.seq (.region [qBin bEql .eql s6 (cb 20) w39,
qMov s39 w38] 2)
(.cond s38 (.exit 10)
.skip))
(.seq (.seq (.region [qBin bEql .eql s6 (cb 17) w41,
qMov s41 w40] 2)
(.cond s40 (.exit 11)
.skip))
(.seq (.seq (.region [qBin bEql .eql s6 (cb 22) w43,
qMov s43 w42] 2)
(.cond s42 (.exit 12)
.skip))
(.seq (.seq (.region [qBin bEql .eql s6 (cb 23) w45,
qMov s45 w44] 2)
(.cond s44 (.exit 13)
.skip))
(.seq (.seq (.seq (.region [qBin bEql .eql s6 (cb 24) w47,
qMov s47 w46] 2)
(.cond s46 .skip
(.seq (.region [qBin bEql .eql s6 (cb 28) w48,
qMov s48 w46] 2)
(.cond s46 .skip
(.region [qBin bEql .eql s6 (cb 32) w49,
qMov s49 w46] 2)))))
(.cond s46 (.exit 14)
.skip))
(.seq (.seq (.region [qBin bEql .eql s6 (cb 25) w51,
qMov s51 w50] 2)
(.cond s50 (.exit 15)
.skip))
(.seq (.seq (.seq (.region [qBin bEql .eql s6 (cb 26) w53,
qMov s53 w52] 2)
(.cond s52 .skip
(.region [qBin bEql .eql s6 (cb 27) w54,
qMov s54 w52] 2)))
(.cond s52 (.exit 16)
.skip))
(.seq (.seq (.region [qBin bEql .eql s6 (cb 29) w56,
qMov s56 w55] 2)
(.cond s55 (.exit 17)
.skip))
(.seq (.region [qBin bEql .eql s6 (cb 34) w58,
qMov s58 w57] 2)
(.cond s57 (.exit 18)
.skip)))))))))))))))))))
(.exit 19)))
(.exit 0)))
(.seq (.region [qMov s4 w59,
seqO (r_callF 309 [] 0 60) w60,
seqO (r_callF 310 [] 0 61) w61,
seqO (r_buildSlice 4 2 [di,di,(.sc (.bool false)),(.sc (.bool false))] [(0,s60),(1,s61)] 0 62) w62,
seqO (r_callv s59 [s62] 0 63) w63] 5)
(.exit 0))))
(.seq (.region [qMov s4 w64,
seqO (r_callF 309 [] 0 65) w65,
seqO (r_callF 311 [(cn 32)] 0 66) w66,
seqO (r_buildSlice 4 2 [di,di,(.sc (.bool false)),(.sc (.bool false))] [(0,s65),(1,s66)] 0 67) w67,
seqO (r_callv s64 [s67] 0 68) w68] 5)
(.exit 0))))
(.seq (.region [qMov s4 w69,
seqO (r_callF 309 [] 0 70) w70,
seqO (r_callF 311 [(cn 2)] 0 71) w71,
seqO (r_buildSlice 4 2 [di,di,(.sc (.bool false)),(.sc (.bool false))] [(0,s70),(1,s71)] 0 72) w72,
seqO (r_callv s69 [s72] 0 73) w73] 5)
(.exit 0))))
(.seq (.region [qMov s4 w74,
seqO (r_callF 309 [] 0 75) w75,
seqO (r_buildSlice 4 1 [di,di,(.sc (.bool false)),(.sc (.bool false))] [(0,s75)] 0 76) w76,
seqO (r_callv s74 [s76] 0 77) w77] 4)
(.exit 0))))
(.region [seqO (r_callF 312 [] 0 78) w78,
seqO (r_indexArr 3 4 s2 (cn 2) 0 79) w79,
seqO (r_store 4 s79 s78 0 0) wN] 3)))
(.seq (.seq (.region [seqO (r_callF 309 [] 0 80) w80,
seqO (r_callF 312 [] 0 81) w81,
seqO (r_indexArr 3 4 s2 (cn 0) 0 82) w82,
seqO (r_store 4 s82 s80 0 0) wN,
seqO (r_indexArr 3 4 s2 (cn 1) 0 83) w83,
seqO (r_store 4 s83 s81 0 0) wN,
seqO (r_store 1 s3 (cn 2) 0 0) wN] 7)
(.seq (.region [seqO (r_indexArr 3 4 s2 (cn 2) 0 84) w84,
qFad 2 s84 w85,
qLd s85 w86] 3)
(.cond s86 (.region [seqO (r_store 1 s3 (cn 3) 0 0) wN] 1)
.skip)))
(.exit 0))))
(.seq (.region [qMov s4 w87,
seqO (r_callF 309 [] 0 88) w88,
seqO (r_callF 312 [] 0 89) w89,
seqO (r_callF 311 [(cn 8)] 0 90) w90,
seqO (r_buildSlice 4 3 [di,di,(.sc (.bool false)),(.sc (.bool false))] [(0,s88),(1,s89),(2,s90)] 0 91) w91,
seqO (r_callv s87 [s91] 0 92) w92] 6)
(.exit 0))))
(.seq (.region [qMov s4 w93,
seqO (r_callF 312 [] 0 94) w94,
seqO (r_callF 311 [(cn 8)] 0 95) w95,
seqO (r_callF 312 [] 0 96) w96,
seqO (r_buildSlice 4 3 [di,di,(.sc (.bool false)),(.sc (.bool false))] [(0,s94),(1,s95),(2,s96)] 0 97) w97,
seqO (r_callv s93 [s97] 0 98) w98] 6)
(.exit 0))))
(.seq (.region [qMov s4 w99,
seqO (r_callF 312 [] 0 100) w100,
seqO (r_callF 312 [] 0 101) w101,
seqO (r_callF 312 [] 0 102) w102,
seqO (r_buildSlice 4 3 [di,di,(.sc (.bool false)),(.sc (.bool false))] [(0,s100),(1,s101),(2,s102)] 0 103) w103,
seqO (r_callv s99 [s103] 0 104) w104] 6)
(.exit 0))))
(.seq (.region [qMov s4 w105,
seqO (r_callF 312 [] 0 106) w106,
seqO (r_callF 312 [] 0 107) w107,
seqO (r_buildSlice 4 2 [di,di,(.sc (.bool false)),(.sc (.bool false))] [(0,s106),(1,s107)] 0 108) w108,
seqO (r_callv s105 [s108] 0 109) w109] 5)
(.exit 0))))
(.seq (.region [qMov s4 w110,
seqO (r_callF 311 [(cn 200)] 0 111) w111,
seqO (r_buildSlice 4 1 [di,di,(.sc (.bool false)),(.sc (.bool false))] [(0,s111)] 0 112) w112,
seqO (r_callv s110 [s112] 0 113) w113] 4)
(.exit 0))))
(.seq (.region [qMov s4 w114,
seqO (r_callF 312 [] 0 115) w115,
seqO (r_callF 311 [(cn 200)] 0 116) w116,
seqO (r_buildSlice 4 2 [di,di,(.sc (.bool false)),(.sc (.bool false))] [(0,s115),(1,s116)] 0 117) w117,
seqO (r_callv s114 [s117] 0 118) w118] 5)
(.exit 0))))
(.seq (.region [qMov s4 w119,
seqO (r_callF 312 [] 0 120) w120,
seqO (r_buildSlice 4 1 [di,di,(.sc (.bool false)),(.sc (.bool false))] [(0,s120)] 0 121) w121,
seqO (r_callv s119 [s121] 0 122) w122] 4)
(.exit 0))))
(.seq (.seq (.region [qMov s4 w123,
seqO (r_callF 309 [] 0 124) w124,
seqO (r_callF 311 [(cn 32)] 0 125) w125,
seqO (r_buildSlice 4 2 [di,di,(.sc (.bool false)),(.sc (.bool false))] [(0,s124),(1,s125)] 0 126) w126,
seqO (r_callv s123 [s126] 0 127) w127] 5)
(.region [seqO (r_indexArr 3 4 s2 (cn 0) 0 128) w128,
qFad 0 s128 w129,
seqO (r_store 1 s129 (cm 0) 0 0) wN] 3))
(.exit 0))))
(.seq (.region [qMov s4 w130,
seqO (r_callF 311 [(cn 32)] 0 131) w131,
seqO (r_buildSlice 4 1 [di,di,(.sc (.bool false)),(.sc (.bool false))] [(0,s131)] 0 132) w132,
seqO (r_callv s130 [s132] 0 133) w133] 4)
(.exit 0))))
(.seq (.region [qMov s4 w134,
seqO (r_callF 309 [] 0 135) w135,
seqO (r_callF 309 [] 0 136) w136,
seqO (r_buildSlice 4 2 [di,di,(.sc (.bool false)),(.sc (.bool false))] [(0,s135),(1,s136)] 0 137) w137,
seqO (r_callv s134 [s137] 0 138) w138] 5)
(.exit 0))))
(.seq (.seq (.region [qMov s4 w139,
seqO (r_callF 312 [] 0 140) w140,
seqO (r_buildSlice 4 1 [di,di,(.sc (.bool false)),(.sc (.bool false))] [(0,s140)] 0 141) w141,
seqO (r_callv s139 [s141] 0 142) w142] 4)
(.region [seqO (r_indexArr 3 4 s2 (cn 0) 0 143) w143,
qFad 0 s143 w144,
seqO (r_store 1 s144 (cm 0) 0 0) wN] 3))
(.exit 0))))
(.seq (.region [seqO (r_store 1 s3 (cm 0) 0 0) wN] 1)
(.exit 0)))))
(.seq (.draw [⟨(r_load 12 true s2 0 145),w145,0⟩,
⟨(r_load 1 false s3 0 146),w146,0⟩,
⟨(r_store 12 s2 s145 0 0),wN,1⟩,
⟨(r_store 1 s3 s146 0 0),wN,7⟩] 4)
.ret)))),false⟩
def q300:QFn:=⟨1,[.cell s2 3 true],
(.seq (.region [seqO (r_box s0 0 1) w1,
seqO (r_alloc [i0,i0,i0] 0 2) w2] 2)
(.seq (.region [qFad 1 s1 w3,
qLd s3 w4,
qFad 2 s1 w5,
qLd s5 w6,
qFad 3 s1 w7,
qLd s7 w8,
seqO (r_build [i0,i0,i0] [(0,1,s4),(1,1,s6),(2,1,s8)] 0 9) w9,
seqO (r_store 3 s2 s9 0 0) wN] 8)
.ret)),false⟩
def q301:QFn:=⟨1,[.t s2],
(.seq (.region [qMov cF w2] 1)
(.seq (.seq (.region [qMov s0 w5,
seqO (r_len s5 0 6) w6,
qMov (cn 0) w7] 3)
(.block 0 (.loop (.seq (.region [qBin bLss .lss s7 s6 w8] 1)
(.seq (.cond s8 .skip
(.exit 0))
(.seq (.block 1 (.seq (.region [qMov s7 w9,
seqO (r_indexAddr 2 s5 s7 0 10) w10,
seqO (r_load 2 true s10 0 11) w11,
seqO (r_alloc [(.d (.sc (.string ⟨#[]⟩))),i0] 0 4) w4,
qMov s9 w3,
seqO (r_store 2 s4 s11 0 0) wN] 6)
(.seq (.region [qFad 0 s4 w12,
qLd s12 w13,
seqO (r_callF 277 [s13] 0 14) w14,
seqO (r_un .not s14 0 15) w15,
qMov s15 w16,
gdO s16 false w17 (qMov s0 w17),
gdO s16 false w18 (qMov s3 w18),
gdO s16 false w19 (seqO (r_slice 2 s17 none (some s18) none 0 19) w19),
gdO s16 false w20 (seqO (r_makeFunc 314 [s4] 0 20) w20),
gdO s16 false w21 (seqO (r_callF 313 [s19,s20] 0 21) w21),
qPick s16 cT s21 w22] 11)
(.cond s22 (.seq (.region [qMov cF w2] 1)
.ret)
.skip))))
(.region [qBin bAdd .add s7 (cn 1) w23,
qMov s23 w7] 2)))))))
(.seq (.region [qMov cT w2] 1)
.ret))),false⟩
def q302:QFn:=⟨2,[],
(.region [qLd s1 w3,
qMov s0 w4,
seqO (r_buildSlice 1 1 [db] [(0,s4)] 0 5) w5,
seqO (fr fun d=>r_append 1 1 s3 s5 2612396037 d) w6,
seqO (r_store 1 s1 s6 0 0) wN] 5),true⟩
def q303:QFn:=⟨1,[.t s2],
(.seq (.region [qMov cF w2] 1)
(.seq (.region [qMov s0 w3,
qBin bNeq .neq s3 (cn 0) w4,
qMov s4 w2] 3)
.ret)),false⟩
def q304:QFn:=⟨2,[.t s4],
(.seq (.region [qMov (cK oF) w4] 1)
(.seq (.seq (.region [qMov s0 w7,
qMov s1 w8,
seqO (r_indexAddr 4 s7 s8 0 9) w9,
seqO (r_load 4 true s9 0 10) w10,
seqO (r_alloc [b0,i0,i0,i0] 0 5) w5,
seqO (r_store 4 s5 s10 0 0) wN] 6)
(.seq (.region [qFad 0 s5 w11,
qLd s11 w12] 2)
(.block 0 (.seq (.seq (.region [qBin bEql .eql s12 (cb 34) w14,
qMov s14 w13] 2)
(.cond s13 .skip
(.seq (.region [qBin bEql .eql s12 (cb 28) w15,
qMov s15 w13] 2)
(.cond s13 .skip
(.region [qBin bEql .eql s12 (cb 30) w16,
qMov s16 w13] 2)))))
(.cond s13 (.seq (.region [qMov (cK oF) w4] 1)
.ret)
(.seq (.region [qBin bEql .eql s12 (cb 22) w18,
qMov s18 w17] 2)
(.cond s17 (.seq (.region [qFad 1 s5 w19,
qLd s19 w20,
seqO (r_buildSlice 1 1 [di] [(0,s20)] 0 21) w21,
qMov s21 w4] 4)
.ret)
(.seq (.region [qBin bEql .eql s12 (cb 23) w23,
qMov s23 w22] 2)
(.cond s22 (.seq (.region [qMov s1 w24,
qBin bAdd .add s24 (cn 1) w25,
qFad 2 s5 w26,
qLd s26 w27,
seqO (r_buildSlice 1 2 [di] [(0,s25),(1,s27)] 1 28) w28,
qMov s28 w6] 6)
(.seq (.region [qMov s6 w29,
seqO (r_callF 315 [s29] 0 30) w30] 2)
(.seq (.region [qMov s6 w31,
seqO (r_call 316 [s31] 0 32) w32,
qMov s32 w4] 3)
.ret)))
.skip)))))))))
(.seq (.region [qMov s1 w33,
qBin bAdd .add s33 (cn 1) w34,
seqO (r_buildSlice 1 1 [di] [(0,s34)] 0 35) w35,
qMov s35 w4] 4)
.ret))),false⟩
def q305:QFn:=⟨2,[.t s4],
(.seq (.region [qMov cF w4] 1)
(.seq (.region [qMov s0 w5,
qMov s1 w6,
seqO (r_callF 317 [s5,s6] 0 7) w7,
qBin bGeq .geq s7 (cn 0) w8,
qMov s8 w4] 5)
.ret)),false⟩
def q306:QFn:=⟨2,[.t s3],
(.seq (.region [qMov cF w3] 1)
(.seq (.region [seqO (r_load 10 true s1 0 4) w4,
qMov s0 w5,
seqO (r_buildSlice 1 3 [db] [(0,(cb 1)),(1,(cb 2)),(2,(cb 4))] 2 6) w6,
seqO (r_callF 287 [s4,s5,s6] 0 7) w7,
qMov s7 w3] 5)
.ret)),true⟩
def q307:QFn:=⟨1,[.t s2],
(.seq (.region [seqO (r_mov (cK oF) 65540 2) w2] 1)
(.seq (.region [qMov s0 w3,
qMov s0 w4,
seqO (r_len s4 0 5) w5,
qMov s0 w6,
seqO (r_len s6 0 7) w7,
seqO (r_slice 1 s3 none (some s5) (some s7) 0 8) w8,
seqO (r_mov s8 65540 2) w2] 7)
.ret)),false⟩
def q308:QFn:=⟨3,[],
(.region [seqO (r_sliceB 3 4 s1 0 4) w4,
qMov s0 w5,
seqO (r_copy 4 s4 s5 0 6) w6,
seqO (r_store 1 s2 s6 0 0) wN] 4),true⟩
def q309:QFn:=⟨0,[.cell s0 4 true],
(.seq (.region [seqO (r_alloc [i0,i0,(.d (.sc (.bool false))),(.d (.sc (.bool false)))] 0 0) w0] 1)
(.seq (.region [seqO (r_build [i0,i0,(.d (.sc (.bool false))),(.d (.sc (.bool false)))] [(0,1,(cn 0)),(1,1,(cn 15)),(2,1,cF),(3,1,cT)] 0 1) w1,
seqO (r_store 4 s0 s1 0 0) wN] 2)
.ret)),false⟩
def q310:QFn:=⟨0,[.cell s0 4 true],
(.seq (.region [seqO (r_alloc [i0,i0,(.d (.sc (.bool false))),(.d (.sc (.bool false)))] 0 0) w0] 1)
(.seq (.region [seqO (r_build [i0,i0,(.d (.sc (.bool false))),(.d (.sc (.bool false)))] [(0,1,(cm 9223372036854775807)),(1,1,(cn 9223372036854775807)),(2,1,cF),(3,1,cF)] 0 1) w1,
seqO (r_store 4 s0 s1 0 0) wN] 2)
.ret)),false⟩
def q311:QFn:=⟨1,[.cell s2 4 true],
(.seq (.region [seqO (r_alloc [i0,i0,(.d (.sc (.bool false))),(.d (.sc (.bool false)))] 0 2) w2] 1)
(.seq (.region [qMov s0 w3,
qBin bSub .sub s3 (cn 1) w4,
seqO (r_build [i0,i0,(.d (.sc (.bool false))),(.d (.sc (.bool false)))] [(0,1,(cn 0)),(1,1,s4),(2,1,cF),(3,1,cF)] 0 5) w5,
seqO (r_store 4 s2 s5 0 0) wN] 4)
.ret)),false⟩
def q312:QFn:=⟨0,[.cell s0 4 true],
(.seq (.region [seqO (r_alloc [i0,i0,(.d (.sc (.bool false))),(.d (.sc (.bool false)))] 0 0) w0] 1)
(.seq (.region [seqO (r_build [i0,i0,(.d (.sc (.bool false))),(.d (.sc (.bool false)))] [(0,1,(cn 0)),(1,1,(cn 15)),(2,1,cT),(3,1,cF)] 0 1) w1,
seqO (r_store 4 s0 s1 0 0) wN] 2)
.ret)),false⟩
def q313:QFn:=⟨2,[.t s4],
(.seq (.region [qMov cF w4] 1)
(.seq (.region [qMov s0 w5,
qMov s1 w6,
seqO (r_callF 318 [s5,s6] 0 7) w7,
qBin bGeq .geq s7 (cn 0) w8,
qMov s8 w4] 5)
.ret)),true⟩
def q314:QFn:=⟨2,[.t s3],
(.seq (.region [seqO (r_box s0 0 2) w2,
qMov cF w3] 2)
(.seq (.region [qFad 0 s2 w4,
qLd s4 w5,
qFad 0 s1 w6,
qLd s6 w7,
qBin bEql .eql s5 s7 w8,
qMov s8 w3] 6)
.ret)),true⟩
def q315:QFn:=⟨1,[],
(.seq (.region [qMov s0 w3,
seqO (r_len s3 0 4) w4,
qMov s4 w2] 3)
(.region [qMov s0 w5,
qMov s2 w6,
qMov s2 w7,
seqO (r_conv .u64 s7 0 8) w8,
seqO (r_callF 320 [s8] 0 9) w9,
seqO (r_callF 319 [s5,(cn 0),s6,s9] 0 10) w10] 6)),true⟩
def q316:QFn:=⟨1,[.t s2],
(.seq (.region [qMov (cK oF) w2] 1)
(.seq (.seq (.region [qMov s0 w6,
seqO (r_len s6 0 7) w7,
qBin bLss .lss s7 (cn 2) w8] 3)
(.cond s8 (.seq (.region [qMov s0 w9,
qMov s9 w2] 2)
.ret)
.skip))
(.seq (.seq (.region [qMov (cn 1) w3] 1)
(.block 0 (.loop (.seq (.seq (.region [qMov s3 w10,
qMov s0 w11,
seqO (r_len s11 0 12) w12,
qBin bLss .lss s10 s12 w13] 4)
(.cond s13 .skip
(.exit 0)))
(.seq (.block 1 (.seq (.draw [⟨(r_mov s0 0 16),w16,0⟩,
⟨(r_mov s3 0 17),w17,0⟩,
⟨(r_indexAddr 1 s16 s17 0 18),w18,3⟩,
⟨(r_load 1 false s18 0 19),w19,7⟩,
⟨(r_mov s0 0 20),w20,0⟩,
⟨(r_mov s3 0 21),w21,0⟩,
⟨(r_bin .sub s21 (cn 1) 0 22),w22,32⟩,
⟨(r_indexAddr 1 s20 s22 0 23),w23,112⟩,
⟨(r_load 1 false s23 0 24),w24,240⟩,
⟨(r_bin .eql s19 s24 0 25),w25,511⟩] 10)
(.cond s25 (.seq (.region [qMov s0 w26,
qMov s3 w27,
seqO (r_slice 1 s26 (some s27) none none 0 28) w28,
qMov s28 w4] 4)
(.seq (.seq (.region [qMov (cn 1) w5] 1)
(.block 2 (.loop (.seq (.seq (.region [qMov s5 w29,
qMov s4 w30,
seqO (r_len s30 0 31) w31,
qBin bLss .lss s29 s31 w32] 4)
(.cond s32 .skip
(.exit 2)))
(.seq (.block 3 (.seq (.draw [⟨(r_mov s4 0 35),w35,0⟩,
⟨(r_mov s5 0 36),w36,0⟩,
⟨(r_indexAddr 1 s35 s36 0 37),w37,3⟩,
⟨(r_load 1 false s37 0 38),w38,7⟩,
⟨(r_mov s4 0 39),w39,0⟩,
⟨(r_mov s5 0 40),w40,0⟩,
⟨(r_bin .sub s40 (cn 1) 0 41),w41,32⟩,
⟨(r_indexAddr 1 s39 s41 0 42),w42,112⟩,
⟨(r_load 1 false s42 0 43),w43,240⟩,
⟨(r_bin .neq s38 s43 0 44),w44,511⟩] 10)
(.cond s44 (.seq (.region [qMov s0 w45,
qMov s3 w46,
qMov s4 w47,
qMov s5 w48,
seqO (r_indexAddr 1 s47 s48 0 49) w49,
qLd s49 w50,
seqO (r_indexAddr 1 s45 s46 0 51) w51,
seqO (r_store 1 s51 s50 0 0) wN] 8)
(.region [qMov s3 w52,
qBin bAdd .add s52 (cn 1) w53,
qMov s53 w3] 3))
.skip)))
(.region [qMov s5 w33,
qBin bAdd .add s33 (cn 1) w34,
qMov s34 w5] 3))))))
(.seq (.region [qMov s0 w54,
qMov s3 w55,
seqO (r_slice 1 s54 (some s55) none none 0 56) w56,
seqO (r_clear 1 [di] s56 0 0) wN] 4)
(.seq (.region [qMov s0 w57,
qMov s3 w58,
seqO (r_slice 1 s57 none (some s58) none 0 59) w59,
qMov s59 w2] 4)
.ret))))
.skip)))
(.region [qMov s3 w14,
qBin bAdd .add s14 (cn 1) w15,
qMov s15 w3] 3))))))
(.seq (.region [qMov s0 w60,
qMov s60 w2] 2)
.ret)))),true⟩
def q317:QFn:=⟨2,[.t s4],
(.seq (.region [qMov (cn 0) w4] 1)
(.seq (.seq (.region [qMov s0 w6,
seqO (r_len s6 0 7) w7,
qMov (cn 0) w8] 3)
(.block 0 (.loop (.seq (.region [qBin bLss .lss s8 s7 w9] 1)
(.seq (.cond s9 .skip
(.exit 0))
(.seq (.block 1 (.seq (.region [qMov s8 w10,
qMov s10 w5] 2)
(.seq (.region [qMov s1 w11,
qMov s0 w12,
qMov s5 w13,
seqO (r_indexAddr 1 s12 s13 0 14) w14,
qLd s14 w15,
qBin bEql .eql s11 s15 w16] 6)
(.cond s16 (.seq (.region [qMov s5 w17,
qMov s17 w4] 2)
.ret)
.skip))))
(.region [qBin bAdd .add s8 (cn 1) w18,
qMov s18 w8] 2)))))))
(.seq (.region [qMov (cm 0) w4] 1)
.ret))),false⟩
def q318:QFn:=⟨2,[.t s4],
(.seq (.region [qMov (cn 0) w4] 1)
(.seq (.seq (.region [qMov s0 w6,
seqO (r_len s6 0 7) w7,
qMov (cn 0) w8] 3)
(.block 0 (.loop (.seq (.region [qBin bLss .lss s8 s7 w9] 1)
(.seq (.cond s9 .skip
(.exit 0))
(.seq (.block 1 (.seq (.region [qMov s8 w10,
qMov s10 w5] 2)
(.seq (.region [qMov s1 w11,
qMov s0 w12,
qMov s5 w13,
seqO (r_indexAddr 2 s12 s13 0 14) w14,
seqO (r_load 2 true s14 0 15) w15,
seqO (r_callv s11 [s15] 0 16) w16] 6)
(.cond s16 (.seq (.region [qMov s5 w17,
qMov s17 w4] 2)
.ret)
.skip))))
(.region [qBin bAdd .add s8 (cn 1) w18,
qMov s18 w8] 2)))))))
(.seq (.region [qMov (cm 0) w4] 1)
.ret))),true⟩
def q319:QFn:=⟨4,[],
(.seq (.region [qMov cT w8] 1)
(.seq (.region [qMov cT w9] 1)
(.block 0 (.loop (.block 1 (.seq (.region [qMov s2 w19,
qMov s1 w20,
qBin bSub .sub s19 s20 w21,
qMov s21 w10] 4)
(.seq (.seq (.region [qMov s10 w22,
qBin bLeq .leq s22 (cn 12) w23] 2)
(.cond s23 (.seq (.region [qMov s0 w24,
qMov s1 w25,
qMov s2 w26,
seqO (r_callF 321 [s24,s25,s26] 0 27) w27] 4)
.ret)
.skip))
(.seq (.seq (.region [qMov s3 w28,
qBin bEql .eql s28 (cn 0) w29] 2)
(.cond s29 (.seq (.region [qMov s0 w30,
qMov s1 w31,
qMov s2 w32,
seqO (r_callF 322 [s30,s31,s32] 0 33) w33] 4)
.ret)
.skip))
(.seq (.seq (.region [qMov s8 w34,
seqO (r_un .not s34 0 35) w35] 2)
(.cond s35 (.seq (.region [qMov s0 w36,
qMov s1 w37,
qMov s2 w38,
seqO (r_callF 323 [s36,s37,s38] 0 39) w39] 4)
(.region [qMov s3 w40,
qBin bSub .sub s40 (cn 1) w41,
qMov s41 w3] 3))
.skip))
(.seq (.region [qMov s0 w43,
qMov s1 w44,
qMov s2 w45,
seqO (r_callF 324 [s43,s44,s45] 0 46) w46,
qMov s46 w42,
seqO (r_extract s42 0 0 47) w47,
seqO (r_extract s42 1 0 48) w48,
qMov s47 w11,
qMov s48 w12] 9)
(.seq (.seq (.region [qMov s12 w49,
qBin bEql .eql s49 (cn 2) w50] 2)
(.cond s50 (.seq (.region [qMov s0 w51,
qMov s1 w52,
qMov s2 w53,
seqO (r_callF 325 [s51,s52,s53] 0 54) w54] 4)
(.seq (.region [qMov s2 w55,
qBin bSub .sub s55 (cn 1) w56,
qMov s11 w57,
qMov s1 w58,
qBin bSub .sub s57 s58 w59,
qBin bSub .sub s56 s59 w60,
qMov s60 w11] 7)
(.region [qMov (cn 1) w12] 1)))
.skip))
(.seq (.seq (.region [qMov s8 w61,
qMov s61 w62,
gdO s62 true w63 (qMov s9 w63),
qPick s62 s63 cF w64,
qMov s64 w65,
gdO s65 true w66 (qMov s12 w66),
gdO s65 true w67 (qBin bEql .eql s66 (cn 1) w67),
qPick s65 s67 cF w68] 8)
(.cond s68 (.seq (.region [qMov s0 w69,
qMov s1 w70,
qMov s2 w71,
seqO (r_callF 326 [s69,s70,s71] 0 72) w72] 4)
(.cond s72 .ret
.skip))
.skip))
(.seq (.seq (.draw [⟨(r_mov s1 0 73),w73,0⟩,
⟨(r_bin .gtr s73 (cn 0) 0 74),w74,1⟩,
⟨(r_mov s74 0 75),w75,3⟩,
⟨gdR s75 true (r_mov s0 0 76),w76,7⟩,
⟨gdR s75 true (r_mov s1 0 77),w77,7⟩,
⟨gdR s75 true (r_bin .sub s77 (cn 1) 0 78),w78,23⟩,
⟨gdR s75 true (r_indexAddr 1 s76 s78 0 79),w79,63⟩,
⟨gdR s75 true (r_load 1 false s79 0 80),w80,127⟩,
⟨gdR s75 true (r_mov s0 0 81),w81,7⟩,
⟨gdR s75 true (r_mov s11 0 82),w82,7⟩,
⟨gdR s75 true (r_indexAddr 1 s81 s82 0 83),w83,775⟩,
⟨gdR s75 true (r_load 1 false s83 0 84),w84,1799⟩,
⟨gdR s75 true (r_callF 327 [s80,s84] 0 85),w85,4095⟩,
⟨gdR s75 true (r_un .not s85 0 86),w86,8191⟩,
⟨(r_pick s75 s86 cF 0 87),w87,16383⟩] 15)
(.cond s87 (.seq (.region [qMov s0 w88,
qMov s1 w89,
qMov s2 w90,
qMov s11 w91,
seqO (r_callF 328 [s88,s89,s90,s91] 0 92) w92,
qMov s92 w13] 6)
(.seq (.region [qMov s13 w93,
qMov s93 w1] 2)
(.exit 1)))
.skip))
(.seq (.region [qMov s0 w95,
qMov s1 w96,
qMov s2 w97,
qMov s11 w98,
seqO (r_callF 329 [s95,s96,s97,s98] 0 99) w99,
qMov s99 w94,
seqO (r_extract s94 0 0 100) w100,
seqO (r_extract s94 1 0 101) w101,
qMov s100 w14,
qMov s101 w15] 10)
(.seq (.region [qMov s15 w102,
qMov s102 w9] 2)
(.seq (.region [qMov s14 w103,
qMov s1 w104,
qBin bSub .sub s103 s104 w105,
qMov s2 w106,
qMov s14 w107,
qBin bSub .sub s106 s107 w108,
qMov s105 w16,
qMov s108 w17] 8)
(.seq (.region [qMov s10 w109,
qBin (bGen .quo) .quo s109 (cn 8) w110,
qMov s110 w18] 3)
(.seq (.region [qMov s16 w111,
qMov s17 w112,
qBin bLss .lss s111 s112 w113] 3)
(.cond s113 (.seq (.region [qMov s16 w114,
qMov s18 w115,
qBin bGeq .geq s114 s115 w116,
qMov s116 w8] 4)
(.seq (.region [qMov s0 w117,
qMov s1 w118,
qMov s14 w119,
qMov s3 w120,
seqO (r_callF 319 [s117,s118,s119,s120] 0 121) w121] 5)
(.region [qMov s14 w122,
qBin bAdd .add s122 (cn 1) w123,
qMov s123 w1] 3)))
(.seq (.region [qMov s17 w124,
qMov s18 w125,
qBin bGeq .geq s124 s125 w126,
qMov s126 w8] 4)
(.seq (.region [qMov s0 w127,
qMov s14 w128,
qBin bAdd .add s128 (cn 1) w129,
qMov s2 w130,
qMov s3 w131,
seqO (r_callF 319 [s127,s129,s130,s131] 0 132) w132] 6)
(.region [qMov s14 w133,
qMov s133 w2] 2)))))))))))))))))))))),true⟩
def q320:QFn:=⟨1,[.t s2],
(.seq (.region [qMov (cn 0) w2] 1)
(.seq (.cond cF (.seq (.region [qMov s0 w3,
seqO (r_conv .u32 s3 0 4) w4,
seqO (r_callF 330 [s4] 0 5) w5,
qMov s5 w2] 4)
.ret)
.skip)
(.seq (.region [qMov s0 w6,
seqO (r_callF 331 [s6] 0 7) w7,
qMov s7 w2] 3)
.ret))),false⟩
def q321:QFn:=⟨3,[],
(.seq (.region [qMov s1 w8,
qBin bAdd .add s8 (cn 1) w9,
qMov s9 w6] 3)
(.block 0 (.loop (.seq (.seq (.region [qMov s6 w10,
qMov s2 w11,
qBin bLss .lss s10 s11 w12] 3)
(.cond s12 .skip
(.exit 0)))
(.seq (.block 1 (.seq (.region [qMov s6 w15,
qMov s15 w7] 2)
(.block 2 (.loop (.seq (.seq (.draw [⟨(r_mov s7 0 16),w16,0⟩,
⟨(r_mov s1 0 17),w17,0⟩,
⟨(r_bin .gtr s16 s17 0 18),w18,3⟩,
⟨(r_mov s18 0 19),w19,7⟩,
⟨gdR s19 true (r_mov s0 0 20),w20,15⟩,
⟨gdR s19 true (r_mov s7 0 21),w21,15⟩,
⟨gdR s19 true (r_indexAddr 1 s20 s21 0 22),w22,63⟩,
⟨gdR s19 true (r_load 1 false s22 0 23),w23,127⟩,
⟨gdR s19 true (r_mov s0 0 24),w24,15⟩,
⟨gdR s19 true (r_mov s7 0 25),w25,15⟩,
⟨gdR s19 true (r_bin .sub s25 (cn 1) 0 26),w26,527⟩,
⟨gdR s19 true (r_indexAddr 1 s24 s26 0 27),w27,1807⟩,
⟨gdR s19 true (r_load 1 false s27 0 28),w28,3855⟩,
⟨gdR s19 true (r_callF 327 [s23,s28] 0 29),w29,8191⟩,
⟨(r_pick s19 s29 cF 0 30),w30,16383⟩] 15)
(.cond s30 .skip
(.exit 2)))
(.seq (.block 3 (.draw [⟨(r_mov s0 0 33),w33,0⟩,
⟨(r_mov s7 0 34),w34,0⟩,
⟨(r_mov s0 0 35),w35,0⟩,
⟨(r_mov s7 0 36),w36,0⟩,
⟨(r_bin .sub s36 (cn 1) 0 37),w37,8⟩,
⟨(r_mov s0 0 38),w38,0⟩,
⟨(r_mov s7 0 39),w39,0⟩,
⟨(r_bin .sub s39 (cn 1) 0 40),w40,64⟩,
⟨(r_indexAddr 1 s38 s40 0 41),w41,224⟩,
⟨(r_load 1 false s41 0 42),w42,480⟩,
⟨(r_mov s0 0 43),w43,0⟩,
⟨(r_mov s7 0 44),w44,0⟩,
⟨(r_indexAddr 1 s43 s44 0 45),w45,3072⟩,
⟨(r_load 1 false s45 0 46),w46,7168⟩,
⟨(r_indexAddr 1 s33 s34 0 47),w47,16355⟩,
⟨(r_store 1 s47 s42 0 0),wN,32739⟩,
⟨(r_indexAddr 1 s35 s37 0 48),w48,65535⟩,
⟨(r_store 1 s48 s46 0 0),wN,131071⟩] 18))
(.region [qMov s7 w31,
qBin bSub .sub s31 (cn 1) w32,
qMov s32 w7] 3)))))))
(.region [qMov s6 w13,
qBin bAdd .add s13 (cn 1) w14,
qMov s14 w6] 3)))))),true⟩
def q327:QFn:=⟨2,[.t s4],
(.seq (.region [qMov cF w4] 1)
(.seq (.region [qMov s0 w5,
seqO (r_callF 337 [s5] 0 6) w6,
qMov s6 w7,
gdO s7 true w8 (qMov s1 w8),
gdO s7 true w9 (seqO (r_callF 337 [s8] 0 9) w9),
gdO s7 true w10 (seqO (r_un .not s9 0 10) w10),
qPick s7 s10 cF w11,
qMov s11 w12,
gdO s12 false w13 (qMov s0 w13),
gdO s12 false w14 (qMov s1 w14),
gdO s12 false w15 (qBin bLss .lss s13 s14 w15),
qPick s12 cT s15 w16,
qMov s16 w4] 13)
.ret)),false⟩
def q331:QFn:=⟨1,[.t s2],
(.seq (.region [qMov (cn 0) w2] 1)
(.seq (.seq (.region [qMov s0 w3,
qBin bGeq .geq s3 (cu 4294967296) w4] 2)
(.cond s4 (.seq (.region [qMov s0 w5,
qBin (bGen .shr) .shr s5 (cu 32) w6,
qMov s6 w0] 3)
(.region [qMov (cn 32) w2] 1))
.skip))
(.seq (.seq (.region [qMov s0 w7,
qBin bGeq .geq s7 (cu 65536) w8] 2)
(.cond s8 (.seq (.region [qMov s0 w9,
qBin (bGen .shr) .shr s9 (cu 16) w10,
qMov s10 w0] 3)
(.region [qMov s2 w11,
qBin bAdd .add s11 (cn 16) w12,
qMov s12 w2] 3))
.skip))
(.seq (.seq (.region [qMov s0 w13,
qBin bGeq .geq s13 (cu 256) w14] 2)
(.cond s14 (.seq (.region [qMov s0 w15,
qBin (bGen .shr) .shr s15 (cu 8) w16,
qMov s16 w0] 3)
(.region [qMov s2 w17,
qBin bAdd .add s17 (cn 8) w18,
qMov s18 w2] 3))
.skip))
(.seq (.region [qMov s2 w19,
qMov s0 w20,
seqO (r_conv .u8 s20 0 21) w21,
seqO (r_indexS (cK (.d (.sc (.string ⟨#[0,1,2,2,3,3,3,3,4,4,4,4,4,4,4,4,5,5,5,5,5,5,5,5,5,5,5,5,5,5,5,5,6,6,6,6,6,6,6,6,6,6,6,6,6,6,6,6,6,6,6,6,6,6,6,6,6,6,6,6,6,6,6,6,7,7,7,7,7,7,7,7,7,7,7,7,7,7,7,7,7,7,7,7,7,7,7,7,7,7,7,7,7,7,7,7,7,7,7,7,7,7,7,7,7,7,7,7,7,7,7,7,7,7,7,7,7,7,7,7,7,7,7,7,7,7,7,7,8,8,8,8,8,8,8,8,8,8,8,8,8,8,8,8,8,8,8,8,8,8,8,8,8,8,8,8,8,8,8,8,8,8,8,8,8,8,8,8,8,8,8,8,8,8,8,8,8,8,8,8,8,8,8,8,8,8,8,8,8,8,8,8,8,8,8,8,8,8,8,8,8,8,8,8,8,8,8,8,8,8,8,8,8,8,8,8,8,8,8,8,8,8,8,8,8,8,8,8,8,8,8,8,8,8,8,8,8,8,8,8,8,8,8,8,8,8,8,8,8,8,8,8,8,8,8,8]⟩)))) s21 0 22) w22,
seqO (r_conv .i64 s22 0 23) w23,
qBin bAdd .add s19 s23 w24,
qMov s24 w2] 7)
.ret))))),false⟩
def q337:QFn:=⟨1,[.t s2],
(.seq (.region [qMov cF w2] 1)
(.seq (.region [qMov s0 w3,
qMov s0 w4,
qBin bNeq .neq s3 s4 w5,
qMov s5 w2] 4)
.ret)),false⟩
def md:Nat→Eng.Mode:=fun f=>match f with
 |3=>⟨[(52,0),(126,0),(172,0),(108,0),(68,8),(103,8),(115,8),(155,8),(195,8)],false⟩
 |4=>⟨[(54,1),(45,1)],false⟩
 |5=>⟨[],false⟩
 |6=>⟨[],false⟩
 |7=>⟨[(35,4295360513),(31,4294967307),(12,4295032834),(29,4295032834),(30,2)],true⟩
 |8=>⟨[(38,0),(67,0),(48,0),(80,14293651161088)],false⟩
 |9=>⟨[],false⟩
 |10=>⟨[],false⟩
 |11=>⟨[(31,0)],false⟩
 |12=>⟨[],false⟩
 |13=>⟨[],false⟩
 |14=>⟨[],false⟩
 |15=>⟨[(24,0),(48,0),(66,0),(73,8),(92,8)],false⟩
 |16=>⟨[],false⟩
 |17=>⟨[(27,1)],false⟩
 |18=>⟨[],false⟩
 |19=>⟨[(50,1)],false⟩
 |20=>⟨[],false⟩
 |21=>⟨[],false⟩
 |22=>⟨[],false⟩
 |23=>⟨[],false⟩
 |24=>⟨[],false⟩
 |25=>⟨[],false⟩
 |26=>⟨[(9,458755),(34,10)],false⟩
 |27=>⟨[(8,1),(5,1)],false⟩
 |28=>⟨[(2,393220),(5,1),(3,1)],false⟩
 |29=>⟨[],false⟩
 |30=>⟨[(45,4294967296),(22,10),(2,0),(29,7883498371153920)],true⟩
 |31=>⟨[],false⟩
 |32=>⟨[(42,0),(110,0),(88,0),(97,0),(79,0)],false⟩
 |33=>⟨[],true⟩
 |34=>⟨[(35,4294967297),(12,4294967307),(7,4294967297),(29,4294967297)],true⟩
 |35=>⟨[],false⟩
 |36=>⟨[],false⟩
 |37=>⟨[],false⟩
 |38=>⟨[],false⟩
 |39=>⟨[],false⟩
 |40=>⟨[],false⟩
 |41=>⟨[],false⟩
 |42=>⟨[],false⟩
 |43=>⟨[],false⟩
 |44=>⟨[],false⟩
 |45=>⟨[],false⟩
 |46=>⟨[],false⟩
 |47=>⟨[],true⟩
 |48=>⟨[],false⟩
 |49=>⟨[(18,65538)],false⟩
 |50=>⟨[(26,1)],false⟩
 |52=>⟨[],false⟩
 |53=>⟨[],false⟩
 |54=>⟨[],false⟩
 |55=>⟨[],false⟩
 |56=>⟨[],false⟩
 |57=>⟨[],false⟩
 |58=>⟨[],false⟩
 |59=>⟨[],false⟩
 |60=>⟨[(45,4294967296),(40,4294967297),(17,4294967307),(12,4294967297),(34,4294967297)],true⟩
 |61=>⟨[],true⟩
 |62=>⟨[(94,65537),(90,65537),(3,13),(65,7)],true⟩
 |63=>⟨[(6,65540),(165,65537),(141,65537),(117,65537),(93,65537),(151,65537),(103,65537),(31,65537),(16,65537),(3,13)],true⟩
 |64=>⟨[(133,10),(195,4295360513),(176,4295360513),(3,13),(174,7),(193,7)],true⟩
 |65=>⟨[],true⟩
 |66=>⟨[],true⟩
 |67=>⟨[],true⟩
 |68=>⟨[],true⟩
 |69=>⟨[(11,1151798903234887680)],true⟩
 |70=>⟨[(54,4591058949),(41,11)],true⟩
 |71=>⟨[(13,1151798903234887680)],true⟩
 |72=>⟨[],true⟩
 |76=>⟨[],false⟩
 |77=>⟨[],false⟩
 |78=>⟨[],false⟩
 |79=>⟨[],false⟩
 |80=>⟨[],false⟩
 |81=>⟨[],false⟩
 |82=>⟨[],false⟩
 |83=>⟨[],false⟩
 |84=>⟨[],false⟩
 |85=>⟨[],false⟩
 |86=>⟨[],false⟩
 |87=>⟨[],false⟩
 |88=>⟨[(35,65538)],false⟩
 |89=>⟨[],false⟩
 |90=>⟨[],false⟩
 |91=>⟨[],false⟩
 |92=>⟨[],false⟩
 |93=>⟨[(13,65537)],false⟩
 |94=>⟨[],false⟩
 |95=>⟨[(10,1)],false⟩
 |96=>⟨[],false⟩
 |97=>⟨[(27,1),(24,1)],false⟩
 |98=>⟨[(20,1)],false⟩
 |99=>⟨[],false⟩
 |100=>⟨[],false⟩
 |101=>⟨[],false⟩
 |102=>⟨[],false⟩
 |103=>⟨[],false⟩
 |104=>⟨[],false⟩
 |105=>⟨[],false⟩
 |106=>⟨[],false⟩
 |107=>⟨[],false⟩
 |108=>⟨[],false⟩
 |109=>⟨[],false⟩
 |110=>⟨[],false⟩
 |111=>⟨[],false⟩
 |112=>⟨[(4,65540),(51,7)],true⟩
 |113=>⟨[],true⟩
 |114=>⟨[(12,65537)],true⟩
 |115=>⟨[],true⟩
 |116=>⟨[(13,65537),(8,65537)],true⟩
 |117=>⟨[],false⟩
 |119=>⟨[(25,10)],true⟩
 |120=>⟨[],true⟩
 |121=>⟨[],true⟩
 |124=>⟨[],false⟩
 |125=>⟨[(24,65537)],false⟩
 |126=>⟨[(65,65538),(47,65538)],false⟩
 |129=>⟨[],false⟩
 |130=>⟨[],false⟩
 |131=>⟨[(48,1151802201769771008),(67,6597069766656)],true⟩
 |132=>⟨[],false⟩
 |133=>⟨[],true⟩
 |134=>⟨[(155,3),(79,1)],false⟩
 |135=>⟨[],false⟩
 |136=>⟨[],false⟩
 |137=>⟨[],false⟩
 |138=>⟨[],false⟩
 |139=>⟨[(89,1179452215509244706816),(96,13194139533312),(98,5497558138880)],true⟩
 |140=>⟨[],true⟩
 |141=>⟨[],true⟩
 |142=>⟨[],false⟩
 |143=>⟨[],false⟩
 |144=>⟨[],false⟩
 |145=>⟨[],false⟩
 |146=>⟨[],false⟩
 |147=>⟨[],false⟩
 |148=>⟨[],false⟩
 |149=>⟨[],false⟩
 |150=>⟨[],false⟩
 |151=>⟨[],false⟩
 |152=>⟨[],false⟩
 |153=>⟨[],false⟩
 |154=>⟨[],false⟩
 |155=>⟨[],false⟩
 |156=>⟨[],false⟩
 |157=>⟨[],false⟩
 |158=>⟨[(9,65538),(19,1)],false⟩
 |159=>⟨[],false⟩
 |160=>⟨[],false⟩
 |161=>⟨[],false⟩
 |162=>⟨[(2,65540),(5,65537)],false⟩
 |163=>⟨[(7,65537)],false⟩
 |164=>⟨[(6,65537)],false⟩
 |165=>⟨[(2,65540),(19,1),(3,65540),(12,1)],false⟩
 |166=>⟨[],false⟩
 |167=>⟨[],false⟩
 |168=>⟨[(9,65537)],false⟩
 |169=>⟨[],false⟩
 |170=>⟨[],false⟩
 |171=>⟨[],false⟩
 |172=>⟨[],false⟩
 |173=>⟨[],false⟩
 |174=>⟨[],false⟩
 |175=>⟨[],false⟩
 |176=>⟨[],false⟩
 |177=>⟨[],false⟩
 |178=>⟨[],false⟩
 |179=>⟨[],false⟩
 |180=>⟨[],false⟩
 |181=>⟨[],true⟩
 |183=>⟨[],false⟩
 |184=>⟨[],true⟩
 |185=>⟨[],false⟩
 |186=>⟨[],false⟩
 |187=>⟨[],false⟩
 |188=>⟨[],false⟩
 |189=>⟨[],false⟩
 |190=>⟨[],false⟩
 |191=>⟨[],false⟩
 |192=>⟨[(9,1)],false⟩
 |193=>⟨[(13,1)],false⟩
 |194=>⟨[(42,65538)],false⟩
 |196=>⟨[(22,1),(4,65540)],true⟩
 |197=>⟨[],false⟩
 |198=>⟨[(5,1)],false⟩
 |199=>⟨[(36,65538)],false⟩
 |200=>⟨[],false⟩
 |203=>⟨[],false⟩
 |204=>⟨[],false⟩
 |205=>⟨[(24,4295360513)],true⟩
 |206=>⟨[],false⟩
 |207=>⟨[],false⟩
 |208=>⟨[],false⟩
 |209=>⟨[],false⟩
 |210=>⟨[(36,1)],false⟩
 |214=>⟨[],false⟩
 |215=>⟨[],false⟩
 |216=>⟨[],false⟩
 |217=>⟨[],false⟩
 |218=>⟨[],false⟩
 |219=>⟨[],false⟩
 |220=>⟨[],false⟩
 |221=>⟨[],false⟩
 |222=>⟨[],false⟩
 |223=>⟨[],false⟩
 |224=>⟨[],false⟩
 |225=>⟨[],false⟩
 |226=>⟨[],false⟩
 |227=>⟨[],false⟩
 |228=>⟨[],false⟩
 |231=>⟨[],false⟩
 |232=>⟨[],false⟩
 |233=>⟨[],false⟩
 |234=>⟨[],false⟩
 |235=>⟨[],true⟩
 |236=>⟨[],false⟩
 |237=>⟨[],false⟩
 |238=>⟨[],false⟩
 |239=>⟨[(37,1)],false⟩
 |240=>⟨[],false⟩
 |241=>⟨[],true⟩
 |242=>⟨[],true⟩
 |243=>⟨[],true⟩
 |244=>⟨[],true⟩
 |245=>⟨[],false⟩
 |246=>⟨[],true⟩
 |247=>⟨[],true⟩
 |248=>⟨[(27,2),(44,2),(65,2),(104,2)],false⟩
 |249=>⟨[(3,6),(17,1)],false⟩
 |250=>⟨[],false⟩
 |251=>⟨[(22,1)],false⟩
 |252=>⟨[],false⟩
 |253=>⟨[],false⟩
 |254=>⟨[(21,1),(4,393220)],false⟩
 |258=>⟨[],false⟩
 |259=>⟨[],false⟩
 |260=>⟨[(13,1)],false⟩
 |261=>⟨[(13,65537)],false⟩
 |262=>⟨[(37,2),(86,2),(119,2),(126,2),(133,2),(139,2),(152,2),(165,2),(182,2),(218,2)],false⟩
 |263=>⟨[(45,3),(105,1),(28,1),(25,1),(91,1),(31,1)],false⟩
 |264=>⟨[(74,1),(39,1)],false⟩
 |265=>⟨[(2,65540),(38,1)],false⟩
 |266=>⟨[],false⟩
 |267=>⟨[],false⟩
 |268=>⟨[],true⟩
 |269=>⟨[(2,65540)],false⟩
 |270=>⟨[],false⟩
 |271=>⟨[],false⟩
 |272=>⟨[(20,65537)],false⟩
 |273=>⟨[],false⟩
 |274=>⟨[],false⟩
 |275=>⟨[],false⟩
 |276=>⟨[],false⟩
 |277=>⟨[],false⟩
 |278=>⟨[],false⟩
 |279=>⟨[(24,3),(40,1),(10,1)],true⟩
 |280=>⟨[],true⟩
 |281=>⟨[],false⟩
 |282=>⟨[],false⟩
 |283=>⟨[],false⟩
 |284=>⟨[],false⟩
 |285=>⟨[],true⟩
 |286=>⟨[(6,2)],true⟩
 |287=>⟨[],false⟩
 |288=>⟨[(6,2)],true⟩
 |291=>⟨[],false⟩
 |292=>⟨[(63,3),(19,65537)],false⟩
 |293=>⟨[],false⟩
 |294=>⟨[],false⟩
 |295=>⟨[],false⟩
 |296=>⟨[],false⟩
 |297=>⟨[],true⟩
 |298=>⟨[],false⟩
 |299=>⟨[],false⟩
 |300=>⟨[],false⟩
 |301=>⟨[],false⟩
 |302=>⟨[(6,19792265221)],true⟩
 |303=>⟨[],false⟩
 |304=>⟨[(28,1)],false⟩
 |305=>⟨[],false⟩
 |306=>⟨[(6,2)],true⟩
 |307=>⟨[(2,65540)],false⟩
 |308=>⟨[],true⟩
 |309=>⟨[],false⟩
 |310=>⟨[],false⟩
 |311=>⟨[],false⟩
 |312=>⟨[],false⟩
 |313=>⟨[],true⟩
 |314=>⟨[],true⟩
 |315=>⟨[],true⟩
 |316=>⟨[],true⟩
 |317=>⟨[],false⟩
 |318=>⟨[],true⟩
 |319=>⟨[],true⟩
 |320=>⟨[],false⟩
 |321=>⟨[],true⟩
 |327=>⟨[],false⟩
 |331=>⟨[],false⟩
 |337=>⟨[],false⟩
 |_=>⟨[],false⟩
def lib:Nat→Option TypeId:=fun f=>match f with
 |73=>some 30
 |74=>some 33
 |75=>some 34
 |_=>none
theorem clone73:IsClone Tryz.prog 73 30:=⟨_,Tryz.func73,by kernel_rfl,by kernel_rfl,by kernel_rfl,by kernel_rfl⟩
theorem clone74:IsClone Tryz.prog 74 33:=⟨_,Tryz.func74,by kernel_rfl,by kernel_rfl,by kernel_rfl,by kernel_rfl⟩
theorem clone75:IsClone Tryz.prog 75 34:=⟨_,Tryz.func75,by kernel_rfl,by kernel_rfl,by kernel_rfl,by kernel_rfl⟩
theorem libOK:∀ f T,lib f=some T→IsLib Tryz.prog f T:=by
 intro f T h
 unfold lib at h
 split at h
 ·injection h with h;subst h;exact⟨fun _ _=>clone73,fun h=>absurd h (by decide),fun h=>absurd h (by decide)⟩
 ·injection h with h;subst h;exact⟨fun _ _=>clone74,fun h=>absurd h (by decide),fun h=>absurd h (by decide)⟩
 ·injection h with h;subst h;exact⟨fun _ _=>clone75,fun h=>absurd h (by decide),fun h=>absurd h (by decide)⟩
 ·cases h
def tabT:Tr QFn:=(.nd none (.nd none (.nd (some q3) (.nd (some q7) (.nd (some q15) (.nd (some q31) (.nd (some q63) .lf (.nd (some q191) (.nd (some q319) .lf .lf) .lf)) (.nd (some q95) (.nd (some q159) (.nd (some q287) .lf .lf) .lf) (.nd (some q223) .lf .lf))) (.nd (some q47) (.nd (some q79) (.nd (some q143) (.nd (some q271) .lf .lf) .lf) (.nd (some q207) .lf .lf)) (.nd (some q111) (.nd (some q175) (.nd (some q303) .lf .lf) .lf) (.nd (some q239) .lf .lf)))) (.nd (some q23) (.nd (some q39) (.nd (some q71) (.nd (some q135) (.nd (some q263) .lf .lf) .lf) (.nd (some q199) (.nd (some q327) .lf .lf) .lf)) (.nd (some q103) (.nd (some q167) (.nd (some q295) .lf .lf) .lf) (.nd (some q231) .lf .lf))) (.nd (some q55) (.nd (some q87) (.nd (some q151) (.nd (some q279) .lf .lf) .lf) (.nd (some q215) .lf .lf)) (.nd (some q119) (.nd (some q183) (.nd (some q311) .lf .lf) .lf) (.nd (some q247) .lf .lf))))) (.nd (some q11) (.nd (some q19) (.nd (some q35) (.nd (some q67) (.nd (some q131) (.nd (some q259) .lf .lf) .lf) .lf) (.nd (some q99) (.nd (some q163) (.nd (some q291) .lf .lf) .lf) (.nd (some q227) .lf .lf))) (.nd none (.nd (some q83) (.nd (some q147) (.nd (some q275) .lf .lf) .lf) .lf) (.nd (some q115) (.nd (some q179) (.nd (some q307) .lf .lf) .lf) (.nd (some q243) .lf .lf)))) (.nd (some q27) (.nd (some q43) (.nd none (.nd (some q139) (.nd (some q267) .lf .lf) .lf) (.nd (some q203) (.nd (some q331) .lf .lf) .lf)) (.nd (some q107) (.nd (some q171) (.nd (some q299) .lf .lf) .lf) (.nd (some q235) .lf .lf))) (.nd (some q59) (.nd (some q91) (.nd (some q155) (.nd (some q283) .lf .lf) .lf) (.nd (some q219) .lf .lf)) (.nd none (.nd (some q187) (.nd (some q315) .lf .lf) .lf) (.nd (some q251) .lf .lf)))))) (.nd (some q5) (.nd (some q9) (.nd (some q17) (.nd (some q33) (.nd (some q65) (.nd (some q129) .lf .lf) (.nd (some q193) (.nd (some q321) .lf .lf) .lf)) (.nd (some q97) (.nd (some q161) .lf .lf) (.nd (some q225) .lf .lf))) (.nd (some q49) (.nd (some q81) (.nd (some q145) (.nd (some q273) .lf .lf) .lf) (.nd (some q209) (.nd (some q337) .lf .lf) .lf)) (.nd (some q113) (.nd (some q177) (.nd (some q305) .lf .lf) .lf) (.nd (some q241) .lf .lf)))) (.nd (some q25) (.nd (some q41) (.nd none (.nd (some q137) (.nd (some q265) .lf .lf) .lf) .lf) (.nd (some q105) (.nd (some q169) (.nd (some q297) .lf .lf) .lf) (.nd (some q233) .lf .lf))) (.nd (some q57) (.nd (some q89) (.nd (some q153) (.nd (some q281) .lf .lf) .lf) (.nd (some q217) .lf .lf)) (.nd (some q121) (.nd (some q185) (.nd (some q313) .lf .lf) .lf) (.nd (some q249) .lf .lf))))) (.nd (some q13) (.nd (some q21) (.nd (some q37) (.nd (some q69) (.nd (some q133) (.nd (some q261) .lf .lf) .lf) (.nd (some q197) .lf .lf)) (.nd (some q101) (.nd (some q165) (.nd (some q293) .lf .lf) .lf) .lf)) (.nd (some q53) (.nd (some q85) (.nd (some q149) (.nd (some q277) .lf .lf) .lf) .lf) (.nd (some q117) (.nd (some q181) (.nd (some q309) .lf .lf) .lf) (.nd (some q245) .lf .lf)))) (.nd (some q29) (.nd (some q45) (.nd (some q77) (.nd (some q141) (.nd (some q269) .lf .lf) .lf) (.nd (some q205) .lf .lf)) (.nd (some q109) (.nd (some q173) (.nd (some q301) .lf .lf) .lf) (.nd (some q237) .lf .lf))) (.nd (some q61) (.nd (some q93) (.nd (some q157) (.nd (some q285) .lf .lf) .lf) (.nd (some q221) .lf .lf)) (.nd (some q125) (.nd (some q189) (.nd (some q317) .lf .lf) .lf) (.nd (some q253) .lf .lf))))))) (.nd none (.nd (some q4) (.nd (some q8) (.nd (some q16) (.nd (some q32) (.nd (some q64) .lf (.nd (some q192) (.nd (some q320) .lf .lf) .lf)) (.nd (some q96) (.nd (some q160) (.nd (some q288) .lf .lf) .lf) (.nd (some q224) .lf .lf))) (.nd (some q48) (.nd (some q80) (.nd (some q144) (.nd (some q272) .lf .lf) .lf) (.nd (some q208) .lf .lf)) (.nd (some q112) (.nd (some q176) (.nd (some q304) .lf .lf) .lf) (.nd (some q240) .lf .lf)))) (.nd (some q24) (.nd (some q40) (.nd (some q72) (.nd (some q136) (.nd (some q264) .lf .lf) .lf) (.nd (some q200) .lf .lf)) (.nd none (.nd (some q168) (.nd (some q296) .lf .lf) .lf) (.nd (some q232) .lf .lf))) (.nd (some q56) (.nd (some q88) (.nd (some q152) (.nd (some q280) .lf .lf) .lf) (.nd (some q216) .lf .lf)) (.nd (some q120) (.nd (some q184) (.nd (some q312) .lf .lf) .lf) (.nd (some q248) .lf .lf))))) (.nd (some q12) (.nd (some q20) (.nd (some q36) (.nd (some q68) (.nd (some q132) (.nd (some q260) .lf .lf) .lf) (.nd (some q196) .lf .lf)) (.nd (some q100) (.nd (some q164) (.nd (some q292) .lf .lf) .lf) (.nd (some q228) .lf .lf))) (.nd (some q52) (.nd (some q84) (.nd (some q148) (.nd (some q276) .lf .lf) .lf) .lf) (.nd (some q116) (.nd (some q180) (.nd (some q308) .lf .lf) .lf) (.nd (some q244) .lf .lf)))) (.nd (some q28) (.nd (some q44) (.nd (some q76) (.nd (some q140) (.nd (some q268) .lf .lf) .lf) (.nd (some q204) .lf .lf)) (.nd (some q108) (.nd (some q172) (.nd (some q300) .lf .lf) .lf) (.nd (some q236) .lf .lf))) (.nd (some q60) (.nd (some q92) (.nd (some q156) (.nd (some q284) .lf .lf) .lf) (.nd (some q220) .lf .lf)) (.nd (some q124) (.nd (some q188) (.nd (some q316) .lf .lf) .lf) (.nd (some q252) .lf .lf)))))) (.nd (some q6) (.nd (some q10) (.nd (some q18) (.nd (some q34) (.nd (some q66) (.nd (some q130) (.nd (some q258) .lf .lf) .lf) (.nd (some q194) .lf .lf)) (.nd (some q98) (.nd (some q162) .lf .lf) (.nd (some q226) .lf .lf))) (.nd (some q50) (.nd (some q82) (.nd (some q146) (.nd (some q274) .lf .lf) .lf) (.nd (some q210) .lf .lf)) (.nd (some q114) (.nd (some q178) (.nd (some q306) .lf .lf) .lf) (.nd (some q242) .lf .lf)))) (.nd (some q26) (.nd (some q42) (.nd none (.nd (some q138) (.nd (some q266) .lf .lf) .lf) .lf) (.nd (some q106) (.nd (some q170) (.nd (some q298) .lf .lf) .lf) (.nd (some q234) .lf .lf))) (.nd (some q58) (.nd (some q90) (.nd (some q154) (.nd (some q282) .lf .lf) .lf) (.nd (some q218) .lf .lf)) (.nd none (.nd (some q186) (.nd (some q314) .lf .lf) .lf) (.nd (some q250) .lf .lf))))) (.nd (some q14) (.nd (some q22) (.nd (some q38) (.nd (some q70) (.nd (some q134) (.nd (some q262) .lf .lf) .lf) (.nd (some q198) .lf .lf)) (.nd (some q102) (.nd (some q166) (.nd (some q294) .lf .lf) .lf) .lf)) (.nd (some q54) (.nd (some q86) (.nd (some q150) (.nd (some q278) .lf .lf) .lf) (.nd (some q214) .lf .lf)) (.nd none (.nd none (.nd (some q310) .lf .lf) .lf) (.nd (some q246) .lf .lf)))) (.nd (some q30) (.nd (some q46) (.nd (some q78) (.nd (some q142) (.nd (some q270) .lf .lf) .lf) (.nd (some q206) .lf .lf)) (.nd (some q110) (.nd (some q174) (.nd (some q302) .lf .lf) .lf) (.nd (some q238) .lf .lf))) (.nd (some q62) (.nd (some q94) (.nd (some q158) (.nd (some q286) .lf .lf) .lf) (.nd (some q222) .lf .lf)) (.nd (some q126) (.nd (some q190) (.nd (some q318) .lf .lf) .lf) (.nd (some q254) .lf .lf))))))))
def tab:Nat→Option QFn:=getTr tabT
theorem ok3:(fnP Tryz.prog lib md 3).bind compF=some q3:=by kernel_rfl
theorem ok4:(fnP Tryz.prog lib md 4).bind compF=some q4:=by kernel_rfl
theorem ok5:(fnP Tryz.prog lib md 5).bind compF=some q5:=by kernel_rfl
theorem ok6:(fnP Tryz.prog lib md 6).bind compF=some q6:=by kernel_rfl
theorem ok7:(fnP Tryz.prog lib md 7).bind compF=some q7:=by kernel_rfl
theorem ok8:(fnP Tryz.prog lib md 8).bind compF=some q8:=by kernel_rfl
theorem ok9:(fnP Tryz.prog lib md 9).bind compF=some q9:=by kernel_rfl
theorem ok10:(fnP Tryz.prog lib md 10).bind compF=some q10:=by kernel_rfl
theorem ok11:(fnP Tryz.prog lib md 11).bind compF=some q11:=by kernel_rfl
theorem ok12:(fnP Tryz.prog lib md 12).bind compF=some q12:=by kernel_rfl
theorem ok13:(fnP Tryz.prog lib md 13).bind compF=some q13:=by kernel_rfl
theorem ok14:(fnP Tryz.prog lib md 14).bind compF=some q14:=by kernel_rfl
theorem ok15:(fnP Tryz.prog lib md 15).bind compF=some q15:=by kernel_rfl
theorem ok16:(fnP Tryz.prog lib md 16).bind compF=some q16:=by kernel_rfl
theorem ok17:(fnP Tryz.prog lib md 17).bind compF=some q17:=by kernel_rfl
theorem ok18:(fnP Tryz.prog lib md 18).bind compF=some q18:=by kernel_rfl
theorem ok19:(fnP Tryz.prog lib md 19).bind compF=some q19:=by kernel_rfl
theorem ok20:(fnP Tryz.prog lib md 20).bind compF=some q20:=by kernel_rfl
theorem ok21:(fnP Tryz.prog lib md 21).bind compF=some q21:=by kernel_rfl
theorem ok22:(fnP Tryz.prog lib md 22).bind compF=some q22:=by kernel_rfl
theorem ok23:(fnP Tryz.prog lib md 23).bind compF=some q23:=by kernel_rfl
theorem ok24:(fnP Tryz.prog lib md 24).bind compF=some q24:=by kernel_rfl
theorem ok25:(fnP Tryz.prog lib md 25).bind compF=some q25:=by kernel_rfl
theorem ok26:(fnP Tryz.prog lib md 26).bind compF=some q26:=by kernel_rfl
theorem ok27:(fnP Tryz.prog lib md 27).bind compF=some q27:=by kernel_rfl
theorem ok28:(fnP Tryz.prog lib md 28).bind compF=some q28:=by kernel_rfl
theorem ok29:(fnP Tryz.prog lib md 29).bind compF=some q29:=by kernel_rfl
theorem ok30:(fnP Tryz.prog lib md 30).bind compF=some q30:=by kernel_rfl
theorem ok31:(fnP Tryz.prog lib md 31).bind compF=some q31:=by kernel_rfl
theorem ok32:(fnP Tryz.prog lib md 32).bind compF=some q32:=by kernel_rfl
theorem ok33:(fnP Tryz.prog lib md 33).bind compF=some q33:=by kernel_rfl
theorem ok34:(fnP Tryz.prog lib md 34).bind compF=some q34:=by kernel_rfl
theorem ok35:(fnP Tryz.prog lib md 35).bind compF=some q35:=by kernel_rfl
theorem ok36:(fnP Tryz.prog lib md 36).bind compF=some q36:=by kernel_rfl
theorem ok37:(fnP Tryz.prog lib md 37).bind compF=some q37:=by kernel_rfl
theorem ok38:(fnP Tryz.prog lib md 38).bind compF=some q38:=by kernel_rfl
theorem ok39:(fnP Tryz.prog lib md 39).bind compF=some q39:=by kernel_rfl
theorem ok40:(fnP Tryz.prog lib md 40).bind compF=some q40:=by kernel_rfl
theorem ok41:(fnP Tryz.prog lib md 41).bind compF=some q41:=by kernel_rfl
theorem ok42:(fnP Tryz.prog lib md 42).bind compF=some q42:=by kernel_rfl
theorem ok43:(fnP Tryz.prog lib md 43).bind compF=some q43:=by kernel_rfl
theorem ok44:(fnP Tryz.prog lib md 44).bind compF=some q44:=by kernel_rfl
theorem ok45:(fnP Tryz.prog lib md 45).bind compF=some q45:=by kernel_rfl
theorem ok46:(fnP Tryz.prog lib md 46).bind compF=some q46:=by kernel_rfl
theorem ok47:(fnP Tryz.prog lib md 47).bind compF=some q47:=by kernel_rfl
theorem ok48:(fnP Tryz.prog lib md 48).bind compF=some q48:=by kernel_rfl
theorem ok49:(fnP Tryz.prog lib md 49).bind compF=some q49:=by kernel_rfl
theorem ok50:(fnP Tryz.prog lib md 50).bind compF=some q50:=by kernel_rfl
theorem ok52:(fnP Tryz.prog lib md 52).bind compF=some q52:=by kernel_rfl
theorem ok53:(fnP Tryz.prog lib md 53).bind compF=some q53:=by kernel_rfl
theorem ok54:(fnP Tryz.prog lib md 54).bind compF=some q54:=by kernel_rfl
theorem ok55:(fnP Tryz.prog lib md 55).bind compF=some q55:=by kernel_rfl
theorem ok56:(fnP Tryz.prog lib md 56).bind compF=some q56:=by kernel_rfl
theorem ok57:(fnP Tryz.prog lib md 57).bind compF=some q57:=by kernel_rfl
theorem ok58:(fnP Tryz.prog lib md 58).bind compF=some q58:=by kernel_rfl
theorem ok59:(fnP Tryz.prog lib md 59).bind compF=some q59:=by kernel_rfl
theorem ok60:(fnP Tryz.prog lib md 60).bind compF=some q60:=by kernel_rfl
theorem ok61:(fnP Tryz.prog lib md 61).bind compF=some q61:=by kernel_rfl
theorem ok62:(fnP Tryz.prog lib md 62).bind compF=some q62:=by kernel_rfl
theorem ok63:(fnP Tryz.prog lib md 63).bind compF=some q63:=by kernel_rfl
theorem ok64:(fnP Tryz.prog lib md 64).bind compF=some q64:=by kernel_rfl
theorem ok65:(fnP Tryz.prog lib md 65).bind compF=some q65:=by kernel_rfl
theorem ok66:(fnP Tryz.prog lib md 66).bind compF=some q66:=by kernel_rfl
theorem ok67:(fnP Tryz.prog lib md 67).bind compF=some q67:=by kernel_rfl
theorem ok68:(fnP Tryz.prog lib md 68).bind compF=some q68:=by kernel_rfl
theorem ok69:(fnP Tryz.prog lib md 69).bind compF=some q69:=by kernel_rfl
theorem ok70:(fnP Tryz.prog lib md 70).bind compF=some q70:=by kernel_rfl
theorem ok71:(fnP Tryz.prog lib md 71).bind compF=some q71:=by kernel_rfl
theorem ok72:(fnP Tryz.prog lib md 72).bind compF=some q72:=by kernel_rfl
theorem ok76:(fnP Tryz.prog lib md 76).bind compF=some q76:=by kernel_rfl
theorem ok77:(fnP Tryz.prog lib md 77).bind compF=some q77:=by kernel_rfl
theorem ok78:(fnP Tryz.prog lib md 78).bind compF=some q78:=by kernel_rfl
theorem ok79:(fnP Tryz.prog lib md 79).bind compF=some q79:=by kernel_rfl
theorem ok80:(fnP Tryz.prog lib md 80).bind compF=some q80:=by kernel_rfl
theorem ok81:(fnP Tryz.prog lib md 81).bind compF=some q81:=by kernel_rfl
theorem ok82:(fnP Tryz.prog lib md 82).bind compF=some q82:=by kernel_rfl
theorem ok83:(fnP Tryz.prog lib md 83).bind compF=some q83:=by kernel_rfl
theorem ok84:(fnP Tryz.prog lib md 84).bind compF=some q84:=by kernel_rfl
theorem ok85:(fnP Tryz.prog lib md 85).bind compF=some q85:=by kernel_rfl
theorem ok86:(fnP Tryz.prog lib md 86).bind compF=some q86:=by kernel_rfl
theorem ok87:(fnP Tryz.prog lib md 87).bind compF=some q87:=by kernel_rfl
theorem ok88:(fnP Tryz.prog lib md 88).bind compF=some q88:=by kernel_rfl
theorem ok89:(fnP Tryz.prog lib md 89).bind compF=some q89:=by kernel_rfl
theorem ok90:(fnP Tryz.prog lib md 90).bind compF=some q90:=by kernel_rfl
theorem ok91:(fnP Tryz.prog lib md 91).bind compF=some q91:=by kernel_rfl
theorem ok92:(fnP Tryz.prog lib md 92).bind compF=some q92:=by kernel_rfl
theorem ok93:(fnP Tryz.prog lib md 93).bind compF=some q93:=by kernel_rfl
theorem ok94:(fnP Tryz.prog lib md 94).bind compF=some q94:=by kernel_rfl
theorem ok95:(fnP Tryz.prog lib md 95).bind compF=some q95:=by kernel_rfl
theorem ok96:(fnP Tryz.prog lib md 96).bind compF=some q96:=by kernel_rfl
theorem ok97:(fnP Tryz.prog lib md 97).bind compF=some q97:=by kernel_rfl
theorem ok98:(fnP Tryz.prog lib md 98).bind compF=some q98:=by kernel_rfl
theorem ok99:(fnP Tryz.prog lib md 99).bind compF=some q99:=by kernel_rfl
theorem ok100:(fnP Tryz.prog lib md 100).bind compF=some q100:=by kernel_rfl
theorem ok101:(fnP Tryz.prog lib md 101).bind compF=some q101:=by kernel_rfl
theorem ok102:(fnP Tryz.prog lib md 102).bind compF=some q102:=by kernel_rfl
theorem ok103:(fnP Tryz.prog lib md 103).bind compF=some q103:=by kernel_rfl
theorem ok105:(fnP Tryz.prog lib md 105).bind compF=some q105:=by kernel_rfl
theorem ok106:(fnP Tryz.prog lib md 106).bind compF=some q106:=by kernel_rfl
theorem ok107:(fnP Tryz.prog lib md 107).bind compF=some q107:=by kernel_rfl
theorem ok108:(fnP Tryz.prog lib md 108).bind compF=some q108:=by kernel_rfl
theorem ok109:(fnP Tryz.prog lib md 109).bind compF=some q109:=by kernel_rfl
theorem ok110:(fnP Tryz.prog lib md 110).bind compF=some q110:=by kernel_rfl
theorem ok111:(fnP Tryz.prog lib md 111).bind compF=some q111:=by kernel_rfl
theorem ok112:(fnP Tryz.prog lib md 112).bind compF=some q112:=by kernel_rfl
theorem ok113:(fnP Tryz.prog lib md 113).bind compF=some q113:=by kernel_rfl
theorem ok114:(fnP Tryz.prog lib md 114).bind compF=some q114:=by kernel_rfl
theorem ok115:(fnP Tryz.prog lib md 115).bind compF=some q115:=by kernel_rfl
theorem ok116:(fnP Tryz.prog lib md 116).bind compF=some q116:=by kernel_rfl
theorem ok117:(fnP Tryz.prog lib md 117).bind compF=some q117:=by kernel_rfl
theorem ok119:(fnP Tryz.prog lib md 119).bind compF=some q119:=by kernel_rfl
theorem ok120:(fnP Tryz.prog lib md 120).bind compF=some q120:=by kernel_rfl
theorem ok121:(fnP Tryz.prog lib md 121).bind compF=some q121:=by kernel_rfl
theorem ok124:(fnP Tryz.prog lib md 124).bind compF=some q124:=by kernel_rfl
theorem ok125:(fnP Tryz.prog lib md 125).bind compF=some q125:=by kernel_rfl
theorem ok126:(fnP Tryz.prog lib md 126).bind compF=some q126:=by kernel_rfl
theorem ok129:(fnP Tryz.prog lib md 129).bind compF=some q129:=by kernel_rfl
theorem ok130:(fnP Tryz.prog lib md 130).bind compF=some q130:=by kernel_rfl
theorem ok131:(fnP Tryz.prog lib md 131).bind compF=some q131:=by kernel_rfl
theorem ok132:(fnP Tryz.prog lib md 132).bind compF=some q132:=by kernel_rfl
theorem ok133:(fnP Tryz.prog lib md 133).bind compF=some q133:=by kernel_rfl
theorem ok134:(fnP Tryz.prog lib md 134).bind compF=some q134:=by kernel_rfl
theorem ok135:(fnP Tryz.prog lib md 135).bind compF=some q135:=by kernel_rfl
theorem ok136:(fnP Tryz.prog lib md 136).bind compF=some q136:=by kernel_rfl
theorem ok137:(fnP Tryz.prog lib md 137).bind compF=some q137:=by kernel_rfl
theorem ok138:(fnP Tryz.prog lib md 138).bind compF=some q138:=by kernel_rfl
theorem ok139:(fnP Tryz.prog lib md 139).bind compF=some q139:=by kernel_rfl
theorem ok140:(fnP Tryz.prog lib md 140).bind compF=some q140:=by kernel_rfl
theorem ok141:(fnP Tryz.prog lib md 141).bind compF=some q141:=by kernel_rfl
theorem ok142:(fnP Tryz.prog lib md 142).bind compF=some q142:=by kernel_rfl
theorem ok143:(fnP Tryz.prog lib md 143).bind compF=some q143:=by kernel_rfl
theorem ok144:(fnP Tryz.prog lib md 144).bind compF=some q144:=by kernel_rfl
theorem ok145:(fnP Tryz.prog lib md 145).bind compF=some q145:=by kernel_rfl
theorem ok146:(fnP Tryz.prog lib md 146).bind compF=some q146:=by kernel_rfl
theorem ok147:(fnP Tryz.prog lib md 147).bind compF=some q147:=by kernel_rfl
theorem ok148:(fnP Tryz.prog lib md 148).bind compF=some q148:=by kernel_rfl
theorem ok149:(fnP Tryz.prog lib md 149).bind compF=some q149:=by kernel_rfl
theorem ok150:(fnP Tryz.prog lib md 150).bind compF=some q150:=by kernel_rfl
theorem ok151:(fnP Tryz.prog lib md 151).bind compF=some q151:=by kernel_rfl
theorem ok152:(fnP Tryz.prog lib md 152).bind compF=some q152:=by kernel_rfl
theorem ok153:(fnP Tryz.prog lib md 153).bind compF=some q153:=by kernel_rfl
theorem ok154:(fnP Tryz.prog lib md 154).bind compF=some q154:=by kernel_rfl
theorem ok155:(fnP Tryz.prog lib md 155).bind compF=some q155:=by kernel_rfl
theorem ok156:(fnP Tryz.prog lib md 156).bind compF=some q156:=by kernel_rfl
theorem ok157:(fnP Tryz.prog lib md 157).bind compF=some q157:=by kernel_rfl
theorem ok158:(fnP Tryz.prog lib md 158).bind compF=some q158:=by kernel_rfl
theorem ok159:(fnP Tryz.prog lib md 159).bind compF=some q159:=by kernel_rfl
theorem ok160:(fnP Tryz.prog lib md 160).bind compF=some q160:=by kernel_rfl
theorem ok161:(fnP Tryz.prog lib md 161).bind compF=some q161:=by kernel_rfl
theorem ok162:(fnP Tryz.prog lib md 162).bind compF=some q162:=by kernel_rfl
theorem ok163:(fnP Tryz.prog lib md 163).bind compF=some q163:=by kernel_rfl
theorem ok164:(fnP Tryz.prog lib md 164).bind compF=some q164:=by kernel_rfl
theorem ok165:(fnP Tryz.prog lib md 165).bind compF=some q165:=by kernel_rfl
theorem ok166:(fnP Tryz.prog lib md 166).bind compF=some q166:=by kernel_rfl
theorem ok167:(fnP Tryz.prog lib md 167).bind compF=some q167:=by kernel_rfl
theorem ok168:(fnP Tryz.prog lib md 168).bind compF=some q168:=by kernel_rfl
theorem ok169:(fnP Tryz.prog lib md 169).bind compF=some q169:=by kernel_rfl
theorem ok170:(fnP Tryz.prog lib md 170).bind compF=some q170:=by kernel_rfl
theorem ok171:(fnP Tryz.prog lib md 171).bind compF=some q171:=by kernel_rfl
theorem ok172:(fnP Tryz.prog lib md 172).bind compF=some q172:=by kernel_rfl
theorem ok173:(fnP Tryz.prog lib md 173).bind compF=some q173:=by kernel_rfl
theorem ok174:(fnP Tryz.prog lib md 174).bind compF=some q174:=by kernel_rfl
theorem ok175:(fnP Tryz.prog lib md 175).bind compF=some q175:=by kernel_rfl
theorem ok176:(fnP Tryz.prog lib md 176).bind compF=some q176:=by kernel_rfl
theorem ok177:(fnP Tryz.prog lib md 177).bind compF=some q177:=by kernel_rfl
theorem ok178:(fnP Tryz.prog lib md 178).bind compF=some q178:=by kernel_rfl
theorem ok179:(fnP Tryz.prog lib md 179).bind compF=some q179:=by kernel_rfl
theorem ok180:(fnP Tryz.prog lib md 180).bind compF=some q180:=by kernel_rfl
theorem ok181:(fnP Tryz.prog lib md 181).bind compF=some q181:=by kernel_rfl
theorem ok183:(fnP Tryz.prog lib md 183).bind compF=some q183:=by kernel_rfl
theorem ok184:(fnP Tryz.prog lib md 184).bind compF=some q184:=by kernel_rfl
theorem ok185:(fnP Tryz.prog lib md 185).bind compF=some q185:=by kernel_rfl
theorem ok186:(fnP Tryz.prog lib md 186).bind compF=some q186:=by kernel_rfl
theorem ok187:(fnP Tryz.prog lib md 187).bind compF=some q187:=by kernel_rfl
theorem ok188:(fnP Tryz.prog lib md 188).bind compF=some q188:=by kernel_rfl
theorem ok189:(fnP Tryz.prog lib md 189).bind compF=some q189:=by kernel_rfl
theorem ok190:(fnP Tryz.prog lib md 190).bind compF=some q190:=by kernel_rfl
theorem ok191:(fnP Tryz.prog lib md 191).bind compF=some q191:=by kernel_rfl
theorem ok192:(fnP Tryz.prog lib md 192).bind compF=some q192:=by kernel_rfl
theorem ok193:(fnP Tryz.prog lib md 193).bind compF=some q193:=by kernel_rfl
theorem ok194:(fnP Tryz.prog lib md 194).bind compF=some q194:=by kernel_rfl
theorem ok196:(fnP Tryz.prog lib md 196).bind compF=some q196:=by kernel_rfl
theorem ok197:(fnP Tryz.prog lib md 197).bind compF=some q197:=by kernel_rfl
theorem ok198:(fnP Tryz.prog lib md 198).bind compF=some q198:=by kernel_rfl
theorem ok199:(fnP Tryz.prog lib md 199).bind compF=some q199:=by kernel_rfl
theorem ok200:(fnP Tryz.prog lib md 200).bind compF=some q200:=by kernel_rfl
theorem ok203:(fnP Tryz.prog lib md 203).bind compF=some q203:=by kernel_rfl
theorem ok204:(fnP Tryz.prog lib md 204).bind compF=some q204:=by kernel_rfl
theorem ok205:(fnP Tryz.prog lib md 205).bind compF=some q205:=by kernel_rfl
theorem ok206:(fnP Tryz.prog lib md 206).bind compF=some q206:=by kernel_rfl
theorem ok207:(fnP Tryz.prog lib md 207).bind compF=some q207:=by kernel_rfl
theorem ok208:(fnP Tryz.prog lib md 208).bind compF=some q208:=by kernel_rfl
theorem ok209:(fnP Tryz.prog lib md 209).bind compF=some q209:=by kernel_rfl
theorem ok210:(fnP Tryz.prog lib md 210).bind compF=some q210:=by kernel_rfl
theorem ok214:(fnP Tryz.prog lib md 214).bind compF=some q214:=by kernel_rfl
theorem ok215:(fnP Tryz.prog lib md 215).bind compF=some q215:=by kernel_rfl
theorem ok216:(fnP Tryz.prog lib md 216).bind compF=some q216:=by kernel_rfl
theorem ok217:(fnP Tryz.prog lib md 217).bind compF=some q217:=by kernel_rfl
theorem ok218:(fnP Tryz.prog lib md 218).bind compF=some q218:=by kernel_rfl
theorem ok219:(fnP Tryz.prog lib md 219).bind compF=some q219:=by kernel_rfl
theorem ok220:(fnP Tryz.prog lib md 220).bind compF=some q220:=by kernel_rfl
theorem ok221:(fnP Tryz.prog lib md 221).bind compF=some q221:=by kernel_rfl
theorem ok222:(fnP Tryz.prog lib md 222).bind compF=some q222:=by kernel_rfl
theorem ok223:(fnP Tryz.prog lib md 223).bind compF=some q223:=by kernel_rfl
theorem ok224:(fnP Tryz.prog lib md 224).bind compF=some q224:=by kernel_rfl
theorem ok225:(fnP Tryz.prog lib md 225).bind compF=some q225:=by kernel_rfl
theorem ok226:(fnP Tryz.prog lib md 226).bind compF=some q226:=by kernel_rfl
theorem ok227:(fnP Tryz.prog lib md 227).bind compF=some q227:=by kernel_rfl
theorem ok228:(fnP Tryz.prog lib md 228).bind compF=some q228:=by kernel_rfl
theorem ok231:(fnP Tryz.prog lib md 231).bind compF=some q231:=by kernel_rfl
theorem ok232:(fnP Tryz.prog lib md 232).bind compF=some q232:=by kernel_rfl
theorem ok233:(fnP Tryz.prog lib md 233).bind compF=some q233:=by kernel_rfl
theorem ok234:(fnP Tryz.prog lib md 234).bind compF=some q234:=by kernel_rfl
theorem ok235:(fnP Tryz.prog lib md 235).bind compF=some q235:=by kernel_rfl
theorem ok236:(fnP Tryz.prog lib md 236).bind compF=some q236:=by kernel_rfl
theorem ok237:(fnP Tryz.prog lib md 237).bind compF=some q237:=by kernel_rfl
theorem ok238:(fnP Tryz.prog lib md 238).bind compF=some q238:=by kernel_rfl
theorem ok239:(fnP Tryz.prog lib md 239).bind compF=some q239:=by kernel_rfl
theorem ok240:(fnP Tryz.prog lib md 240).bind compF=some q240:=by kernel_rfl
theorem ok241:(fnP Tryz.prog lib md 241).bind compF=some q241:=by kernel_rfl
theorem ok242:(fnP Tryz.prog lib md 242).bind compF=some q242:=by kernel_rfl
theorem ok243:(fnP Tryz.prog lib md 243).bind compF=some q243:=by kernel_rfl
theorem ok244:(fnP Tryz.prog lib md 244).bind compF=some q244:=by kernel_rfl
theorem ok245:(fnP Tryz.prog lib md 245).bind compF=some q245:=by kernel_rfl
theorem ok246:(fnP Tryz.prog lib md 246).bind compF=some q246:=by kernel_rfl
theorem ok247:(fnP Tryz.prog lib md 247).bind compF=some q247:=by kernel_rfl
theorem ok248:(fnP Tryz.prog lib md 248).bind compF=some q248:=by kernel_rfl
theorem ok249:(fnP Tryz.prog lib md 249).bind compF=some q249:=by kernel_rfl
theorem ok250:(fnP Tryz.prog lib md 250).bind compF=some q250:=by kernel_rfl
theorem ok251:(fnP Tryz.prog lib md 251).bind compF=some q251:=by kernel_rfl
theorem ok252:(fnP Tryz.prog lib md 252).bind compF=some q252:=by kernel_rfl
theorem ok253:(fnP Tryz.prog lib md 253).bind compF=some q253:=by kernel_rfl
theorem ok254:(fnP Tryz.prog lib md 254).bind compF=some q254:=by kernel_rfl
theorem ok258:(fnP Tryz.prog lib md 258).bind compF=some q258:=by kernel_rfl
theorem ok259:(fnP Tryz.prog lib md 259).bind compF=some q259:=by kernel_rfl
theorem ok260:(fnP Tryz.prog lib md 260).bind compF=some q260:=by kernel_rfl
theorem ok261:(fnP Tryz.prog lib md 261).bind compF=some q261:=by kernel_rfl
theorem ok262:(fnP Tryz.prog lib md 262).bind compF=some q262:=by kernel_rfl
theorem ok263:(fnP Tryz.prog lib md 263).bind compF=some q263:=by kernel_rfl
theorem ok264:(fnP Tryz.prog lib md 264).bind compF=some q264:=by kernel_rfl
theorem ok265:(fnP Tryz.prog lib md 265).bind compF=some q265:=by kernel_rfl
theorem ok266:(fnP Tryz.prog lib md 266).bind compF=some q266:=by kernel_rfl
theorem ok267:(fnP Tryz.prog lib md 267).bind compF=some q267:=by kernel_rfl
theorem ok268:(fnP Tryz.prog lib md 268).bind compF=some q268:=by kernel_rfl
theorem ok269:(fnP Tryz.prog lib md 269).bind compF=some q269:=by kernel_rfl
theorem ok270:(fnP Tryz.prog lib md 270).bind compF=some q270:=by kernel_rfl
theorem ok271:(fnP Tryz.prog lib md 271).bind compF=some q271:=by kernel_rfl
theorem ok272:(fnP Tryz.prog lib md 272).bind compF=some q272:=by kernel_rfl
theorem ok273:(fnP Tryz.prog lib md 273).bind compF=some q273:=by kernel_rfl
theorem ok274:(fnP Tryz.prog lib md 274).bind compF=some q274:=by kernel_rfl
theorem ok275:(fnP Tryz.prog lib md 275).bind compF=some q275:=by kernel_rfl
theorem ok276:(fnP Tryz.prog lib md 276).bind compF=some q276:=by kernel_rfl
theorem ok277:(fnP Tryz.prog lib md 277).bind compF=some q277:=by kernel_rfl
theorem ok278:(fnP Tryz.prog lib md 278).bind compF=some q278:=by kernel_rfl
theorem ok279:(fnP Tryz.prog lib md 279).bind compF=some q279:=by kernel_rfl
theorem ok280:(fnP Tryz.prog lib md 280).bind compF=some q280:=by kernel_rfl
theorem ok281:(fnP Tryz.prog lib md 281).bind compF=some q281:=by kernel_rfl
theorem ok282:(fnP Tryz.prog lib md 282).bind compF=some q282:=by kernel_rfl
theorem ok283:(fnP Tryz.prog lib md 283).bind compF=some q283:=by kernel_rfl
theorem ok284:(fnP Tryz.prog lib md 284).bind compF=some q284:=by kernel_rfl
theorem ok285:(fnP Tryz.prog lib md 285).bind compF=some q285:=by kernel_rfl
theorem ok286:(fnP Tryz.prog lib md 286).bind compF=some q286:=by kernel_rfl
theorem ok287:(fnP Tryz.prog lib md 287).bind compF=some q287:=by kernel_rfl
theorem ok288:(fnP Tryz.prog lib md 288).bind compF=some q288:=by kernel_rfl
theorem ok291:(fnP Tryz.prog lib md 291).bind compF=some q291:=by kernel_rfl
theorem ok292:(fnP Tryz.prog lib md 292).bind compF=some q292:=by kernel_rfl
theorem ok293:(fnP Tryz.prog lib md 293).bind compF=some q293:=by kernel_rfl
theorem ok294:(fnP Tryz.prog lib md 294).bind compF=some q294:=by kernel_rfl
theorem ok295:(fnP Tryz.prog lib md 295).bind compF=some q295:=by kernel_rfl
theorem ok296:(fnP Tryz.prog lib md 296).bind compF=some q296:=by kernel_rfl
theorem ok297:(fnP Tryz.prog lib md 297).bind compF=some q297:=by kernel_rfl
theorem ok298:(fnP Tryz.prog lib md 298).bind compF=some q298:=by kernel_rfl
theorem ok299:(fnP Tryz.prog lib md 299).bind compF=some q299:=by kernel_rfl
theorem ok300:(fnP Tryz.prog lib md 300).bind compF=some q300:=by kernel_rfl
theorem ok301:(fnP Tryz.prog lib md 301).bind compF=some q301:=by kernel_rfl
theorem ok302:(fnP Tryz.prog lib md 302).bind compF=some q302:=by kernel_rfl
theorem ok303:(fnP Tryz.prog lib md 303).bind compF=some q303:=by kernel_rfl
theorem ok304:(fnP Tryz.prog lib md 304).bind compF=some q304:=by kernel_rfl
theorem ok305:(fnP Tryz.prog lib md 305).bind compF=some q305:=by kernel_rfl
theorem ok306:(fnP Tryz.prog lib md 306).bind compF=some q306:=by kernel_rfl
theorem ok307:(fnP Tryz.prog lib md 307).bind compF=some q307:=by kernel_rfl
theorem ok308:(fnP Tryz.prog lib md 308).bind compF=some q308:=by kernel_rfl
theorem ok309:(fnP Tryz.prog lib md 309).bind compF=some q309:=by kernel_rfl
theorem ok310:(fnP Tryz.prog lib md 310).bind compF=some q310:=by kernel_rfl
theorem ok311:(fnP Tryz.prog lib md 311).bind compF=some q311:=by kernel_rfl
theorem ok312:(fnP Tryz.prog lib md 312).bind compF=some q312:=by kernel_rfl
theorem ok313:(fnP Tryz.prog lib md 313).bind compF=some q313:=by kernel_rfl
theorem ok314:(fnP Tryz.prog lib md 314).bind compF=some q314:=by kernel_rfl
theorem ok315:(fnP Tryz.prog lib md 315).bind compF=some q315:=by kernel_rfl
theorem ok316:(fnP Tryz.prog lib md 316).bind compF=some q316:=by kernel_rfl
theorem ok317:(fnP Tryz.prog lib md 317).bind compF=some q317:=by kernel_rfl
theorem ok318:(fnP Tryz.prog lib md 318).bind compF=some q318:=by kernel_rfl
theorem ok319:(fnP Tryz.prog lib md 319).bind compF=some q319:=by kernel_rfl
theorem ok320:(fnP Tryz.prog lib md 320).bind compF=some q320:=by kernel_rfl
theorem ok321:(fnP Tryz.prog lib md 321).bind compF=some q321:=by kernel_rfl
theorem ok327:(fnP Tryz.prog lib md 327).bind compF=some q327:=by kernel_rfl
theorem ok331:(fnP Tryz.prog lib md 331).bind compF=some q331:=by kernel_rfl
theorem ok337:(fnP Tryz.prog lib md 337).bind compF=some q337:=by kernel_rfl
theorem tabAll:AllT (fun f q=>(fnP Tryz.prog lib md f).bind compF=some q) tabT:=⟨trivial,⟨trivial,⟨ok3,⟨ok7,⟨ok15,⟨ok31,⟨ok63,trivial,⟨ok191,⟨ok319,trivial,trivial⟩,trivial⟩⟩,⟨ok95,⟨ok159,⟨ok287,trivial,trivial⟩,trivial⟩,⟨ok223,trivial,trivial⟩⟩⟩,⟨ok47,⟨ok79,⟨ok143,⟨ok271,trivial,trivial⟩,trivial⟩,⟨ok207,trivial,trivial⟩⟩,⟨ok111,⟨ok175,⟨ok303,trivial,trivial⟩,trivial⟩,⟨ok239,trivial,trivial⟩⟩⟩⟩,⟨ok23,⟨ok39,⟨ok71,⟨ok135,⟨ok263,trivial,trivial⟩,trivial⟩,⟨ok199,⟨ok327,trivial,trivial⟩,trivial⟩⟩,⟨ok103,⟨ok167,⟨ok295,trivial,trivial⟩,trivial⟩,⟨ok231,trivial,trivial⟩⟩⟩,⟨ok55,⟨ok87,⟨ok151,⟨ok279,trivial,trivial⟩,trivial⟩,⟨ok215,trivial,trivial⟩⟩,⟨ok119,⟨ok183,⟨ok311,trivial,trivial⟩,trivial⟩,⟨ok247,trivial,trivial⟩⟩⟩⟩⟩,⟨ok11,⟨ok19,⟨ok35,⟨ok67,⟨ok131,⟨ok259,trivial,trivial⟩,trivial⟩,trivial⟩,⟨ok99,⟨ok163,⟨ok291,trivial,trivial⟩,trivial⟩,⟨ok227,trivial,trivial⟩⟩⟩,⟨trivial,⟨ok83,⟨ok147,⟨ok275,trivial,trivial⟩,trivial⟩,trivial⟩,⟨ok115,⟨ok179,⟨ok307,trivial,trivial⟩,trivial⟩,⟨ok243,trivial,trivial⟩⟩⟩⟩,⟨ok27,⟨ok43,⟨trivial,⟨ok139,⟨ok267,trivial,trivial⟩,trivial⟩,⟨ok203,⟨ok331,trivial,trivial⟩,trivial⟩⟩,⟨ok107,⟨ok171,⟨ok299,trivial,trivial⟩,trivial⟩,⟨ok235,trivial,trivial⟩⟩⟩,⟨ok59,⟨ok91,⟨ok155,⟨ok283,trivial,trivial⟩,trivial⟩,⟨ok219,trivial,trivial⟩⟩,⟨trivial,⟨ok187,⟨ok315,trivial,trivial⟩,trivial⟩,⟨ok251,trivial,trivial⟩⟩⟩⟩⟩⟩,⟨ok5,⟨ok9,⟨ok17,⟨ok33,⟨ok65,⟨ok129,trivial,trivial⟩,⟨ok193,⟨ok321,trivial,trivial⟩,trivial⟩⟩,⟨ok97,⟨ok161,trivial,trivial⟩,⟨ok225,trivial,trivial⟩⟩⟩,⟨ok49,⟨ok81,⟨ok145,⟨ok273,trivial,trivial⟩,trivial⟩,⟨ok209,⟨ok337,trivial,trivial⟩,trivial⟩⟩,⟨ok113,⟨ok177,⟨ok305,trivial,trivial⟩,trivial⟩,⟨ok241,trivial,trivial⟩⟩⟩⟩,⟨ok25,⟨ok41,⟨trivial,⟨ok137,⟨ok265,trivial,trivial⟩,trivial⟩,trivial⟩,⟨ok105,⟨ok169,⟨ok297,trivial,trivial⟩,trivial⟩,⟨ok233,trivial,trivial⟩⟩⟩,⟨ok57,⟨ok89,⟨ok153,⟨ok281,trivial,trivial⟩,trivial⟩,⟨ok217,trivial,trivial⟩⟩,⟨ok121,⟨ok185,⟨ok313,trivial,trivial⟩,trivial⟩,⟨ok249,trivial,trivial⟩⟩⟩⟩⟩,⟨ok13,⟨ok21,⟨ok37,⟨ok69,⟨ok133,⟨ok261,trivial,trivial⟩,trivial⟩,⟨ok197,trivial,trivial⟩⟩,⟨ok101,⟨ok165,⟨ok293,trivial,trivial⟩,trivial⟩,trivial⟩⟩,⟨ok53,⟨ok85,⟨ok149,⟨ok277,trivial,trivial⟩,trivial⟩,trivial⟩,⟨ok117,⟨ok181,⟨ok309,trivial,trivial⟩,trivial⟩,⟨ok245,trivial,trivial⟩⟩⟩⟩,⟨ok29,⟨ok45,⟨ok77,⟨ok141,⟨ok269,trivial,trivial⟩,trivial⟩,⟨ok205,trivial,trivial⟩⟩,⟨ok109,⟨ok173,⟨ok301,trivial,trivial⟩,trivial⟩,⟨ok237,trivial,trivial⟩⟩⟩,⟨ok61,⟨ok93,⟨ok157,⟨ok285,trivial,trivial⟩,trivial⟩,⟨ok221,trivial,trivial⟩⟩,⟨ok125,⟨ok189,⟨ok317,trivial,trivial⟩,trivial⟩,⟨ok253,trivial,trivial⟩⟩⟩⟩⟩⟩⟩,⟨trivial,⟨ok4,⟨ok8,⟨ok16,⟨ok32,⟨ok64,trivial,⟨ok192,⟨ok320,trivial,trivial⟩,trivial⟩⟩,⟨ok96,⟨ok160,⟨ok288,trivial,trivial⟩,trivial⟩,⟨ok224,trivial,trivial⟩⟩⟩,⟨ok48,⟨ok80,⟨ok144,⟨ok272,trivial,trivial⟩,trivial⟩,⟨ok208,trivial,trivial⟩⟩,⟨ok112,⟨ok176,⟨ok304,trivial,trivial⟩,trivial⟩,⟨ok240,trivial,trivial⟩⟩⟩⟩,⟨ok24,⟨ok40,⟨ok72,⟨ok136,⟨ok264,trivial,trivial⟩,trivial⟩,⟨ok200,trivial,trivial⟩⟩,⟨trivial,⟨ok168,⟨ok296,trivial,trivial⟩,trivial⟩,⟨ok232,trivial,trivial⟩⟩⟩,⟨ok56,⟨ok88,⟨ok152,⟨ok280,trivial,trivial⟩,trivial⟩,⟨ok216,trivial,trivial⟩⟩,⟨ok120,⟨ok184,⟨ok312,trivial,trivial⟩,trivial⟩,⟨ok248,trivial,trivial⟩⟩⟩⟩⟩,⟨ok12,⟨ok20,⟨ok36,⟨ok68,⟨ok132,⟨ok260,trivial,trivial⟩,trivial⟩,⟨ok196,trivial,trivial⟩⟩,⟨ok100,⟨ok164,⟨ok292,trivial,trivial⟩,trivial⟩,⟨ok228,trivial,trivial⟩⟩⟩,⟨ok52,⟨ok84,⟨ok148,⟨ok276,trivial,trivial⟩,trivial⟩,trivial⟩,⟨ok116,⟨ok180,⟨ok308,trivial,trivial⟩,trivial⟩,⟨ok244,trivial,trivial⟩⟩⟩⟩,⟨ok28,⟨ok44,⟨ok76,⟨ok140,⟨ok268,trivial,trivial⟩,trivial⟩,⟨ok204,trivial,trivial⟩⟩,⟨ok108,⟨ok172,⟨ok300,trivial,trivial⟩,trivial⟩,⟨ok236,trivial,trivial⟩⟩⟩,⟨ok60,⟨ok92,⟨ok156,⟨ok284,trivial,trivial⟩,trivial⟩,⟨ok220,trivial,trivial⟩⟩,⟨ok124,⟨ok188,⟨ok316,trivial,trivial⟩,trivial⟩,⟨ok252,trivial,trivial⟩⟩⟩⟩⟩⟩,⟨ok6,⟨ok10,⟨ok18,⟨ok34,⟨ok66,⟨ok130,⟨ok258,trivial,trivial⟩,trivial⟩,⟨ok194,trivial,trivial⟩⟩,⟨ok98,⟨ok162,trivial,trivial⟩,⟨ok226,trivial,trivial⟩⟩⟩,⟨ok50,⟨ok82,⟨ok146,⟨ok274,trivial,trivial⟩,trivial⟩,⟨ok210,trivial,trivial⟩⟩,⟨ok114,⟨ok178,⟨ok306,trivial,trivial⟩,trivial⟩,⟨ok242,trivial,trivial⟩⟩⟩⟩,⟨ok26,⟨ok42,⟨trivial,⟨ok138,⟨ok266,trivial,trivial⟩,trivial⟩,trivial⟩,⟨ok106,⟨ok170,⟨ok298,trivial,trivial⟩,trivial⟩,⟨ok234,trivial,trivial⟩⟩⟩,⟨ok58,⟨ok90,⟨ok154,⟨ok282,trivial,trivial⟩,trivial⟩,⟨ok218,trivial,trivial⟩⟩,⟨trivial,⟨ok186,⟨ok314,trivial,trivial⟩,trivial⟩,⟨ok250,trivial,trivial⟩⟩⟩⟩⟩,⟨ok14,⟨ok22,⟨ok38,⟨ok70,⟨ok134,⟨ok262,trivial,trivial⟩,trivial⟩,⟨ok198,trivial,trivial⟩⟩,⟨ok102,⟨ok166,⟨ok294,trivial,trivial⟩,trivial⟩,trivial⟩⟩,⟨ok54,⟨ok86,⟨ok150,⟨ok278,trivial,trivial⟩,trivial⟩,⟨ok214,trivial,trivial⟩⟩,⟨trivial,⟨trivial,⟨ok310,trivial,trivial⟩,trivial⟩,⟨ok246,trivial,trivial⟩⟩⟩⟩,⟨ok30,⟨ok46,⟨ok78,⟨ok142,⟨ok270,trivial,trivial⟩,trivial⟩,⟨ok206,trivial,trivial⟩⟩,⟨ok110,⟨ok174,⟨ok302,trivial,trivial⟩,trivial⟩,⟨ok238,trivial,trivial⟩⟩⟩,⟨ok62,⟨ok94,⟨ok158,⟨ok286,trivial,trivial⟩,trivial⟩,⟨ok222,trivial,trivial⟩⟩,⟨ok126,⟨ok190,⟨ok318,trivial,trivial⟩,trivial⟩,⟨ok254,trivial,trivial⟩⟩⟩⟩⟩⟩⟩⟩
theorem tabOK (f:Nat) (q:QFn) (h:tab f=some q):(fnP Tryz.prog lib md f).bind compF=some q:=AllT.get tabAll f q (by rw[←getTr_eq];exact h)
end
end Go.Proofs.YtleacocdepjflaaGreat
