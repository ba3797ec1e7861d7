/- The functions, as tables over places; the first half. -/
import Derived.Test.YtleacocdepjflaaGreatEngQn
import Derived.Test.YtleacocdepjflaaGreatEngMemo
import Derived.Test.YtleacocdepjflaaGreatRows
import Derived.ProofKit
namespace Go.Proofs.YtleacocdepjflaaGreat
open Go Go.Eng
set_option maxRecDepth 100000
noncomputable section
def i0:AV:=.d (.sc (.int .i64 0))
def u0:AV:=.d (.sc (.int .u64 0))
def b0:AV:=.d (.sc (.int .u8 0))
def oF:AV:=.own [] .full
def di:D:=.sc (.int .i64 0)
def du:D:=.sc (.int .u64 0)
def db:D:=.sc (.int .u8 0)
def q3:QFn:=⟨0,[.t s0],
(.seq (.region [qMov cF w0] 1)
(.seq (.region [seqO (r_buildSlice 1 4 [di] [(0,(cn 25)),(1,(cn 27)),(2,(cn 24)),(3,(cn 26))] 0 49) w49,
seqO (r_call 5 [s49] 0 50) w50,
seqO (r_callF 6 [] 0 51) w51,
seqO (r_call 4 [s50,s51] 0 52) w52,
qMov s52 w48,
seqO (r_extract s48 0 0 53) w53,
seqO (r_extract s48 1 0 54) w54,
seqO (r_alloc [oF,oF,oF,i0,i0,i0,i0,u0,oF,oF,oF,i0] 0 1) w1,
seqO (r_store 12 s1 s53 0 0) wN,
qMov s54 w2] 10)
(.seq (.seq (.region [qMov s2 w55,
seqO (r_un .not s55 0 56) w56,
qMov s56 w57,
gdO s57 false w58 (qFad 10 s1 w58),
gdO s57 false w59 (qLd s58 w59),
gdO s57 false w60 (seqO (r_len s59 0 60) w60),
gdO s57 false w61 (qBin bNeq .neq s60 (cn 1) w61),
qPick s57 cT s61 w62] 8)
(.cond s62 (.seq (.region [qMov cF w0] 1)
.ret)
.skip))
(.seq (.region [seqO (r_load 12 true s1 0 63) w63,
seqO (r_call 7 [s63] 0 64) w64,
seqO (r_alloc [oF,oF,oF,i0,i0,i0,i0,u0,oF,oF,oF,i0] 0 3) w3,
seqO (r_store 12 s3 s64 0 0) wN] 4)
(.seq (.region [qFad 11 s3 w65,
seqO (r_store 1 s65 (cm 0) 0 0) wN] 2)
(.seq (.region [seqO (r_load 12 true s3 0 67) w67,
seqO (r_call 8 [s67,(cm 0)] 8 68) w68,
qMov s68 w66,
seqO (r_extract s66 0 0 69) w69,
seqO (r_extract s66 1 0 70) w70,
seqO (r_extract s66 2 0 71) w71,
seqO (r_alloc [oF,oF,oF,i0,i0,i0,i0,u0,oF,oF,oF,i0] 0 4) w4,
seqO (r_store 12 s4 s69 0 0) wN,
qMov s70 w5,
qMov s71 w6] 10)
(.seq (.region [seqO (r_load 12 true s3 0 73) w73,
seqO (r_callF 9 [s73,(cm 0)] 0 74) w74,
qMov s74 w72,
seqO (r_extract s72 0 0 75) w75,
seqO (r_extract s72 1 0 76) w76,
seqO (r_alloc [u0,i0,i0,u0,u0] 0 7) w7,
seqO (r_store 5 s7 s75 0 0) wN,
qMov s76 w8] 8)
(.seq (.region [seqO (r_load 12 true s3 0 78) w78,
seqO (r_callF 10 [s78,(cm 0)] 0 79) w79,
qMov s79 w77,
seqO (r_extract s77 0 0 80) w80,
seqO (r_extract s77 1 0 81) w81,
qMov s80 w9,
qMov s81 w10] 7)
(.seq (.region [seqO (r_load 12 true s1 0 83) w83,
seqO (r_call 8 [s83,(cn 1)] 0 84) w84,
qMov s84 w82,
seqO (r_extract s82 0 0 85) w85,
seqO (r_extract s82 1 0 86) w86,
seqO (r_extract s82 2 0 87) w87,
seqO (r_alloc [oF,oF,oF,i0,i0,i0,i0,u0,oF,oF,oF,i0] 0 11) w11,
seqO (r_store 12 s11 s85 0 0) wN,
qMov s86 w12,
qMov s87 w13] 10)
(.seq (.region [seqO (r_load 12 true s1 0 89) w89,
seqO (r_callF 9 [s89,(cm 0)] 0 90) w90,
qMov s90 w88,
seqO (r_extract s88 0 0 91) w91,
seqO (r_extract s88 1 0 92) w92,
seqO (r_alloc [u0,i0,i0,u0,u0] 0 14) w14,
seqO (r_store 5 s14 s91 0 0) wN,
qMov s92 w15] 8)
(.seq (.region [seqO (r_load 12 true s1 0 94) w94,
seqO (r_callF 10 [s94,(cn 1)] 0 95) w95,
qMov s95 w93,
seqO (r_extract s93 0 0 96) w96,
seqO (r_extract s93 1 0 97) w97,
qMov s96 w16,
qMov s97 w17] 7)
(.seq (.region [seqO (r_load 12 true s1 0 98) w98,
seqO (r_call 7 [s98] 0 99) w99,
seqO (r_alloc [oF,oF,oF,i0,i0,i0,i0,u0,oF,oF,oF,i0] 0 18) w18,
seqO (r_store 12 s18 s99 0 0) wN] 4)
(.seq (.region [qFad 11 s18 w100,
seqO (r_store 1 s100 (cn 1000) 0 0) wN] 2)
(.seq (.region [seqO (r_load 12 true s18 0 102) w102,
seqO (r_call 8 [s102,(cn 0)] 8 103) w103,
qMov s103 w101,
seqO (r_extract s101 0 0 104) w104,
seqO (r_extract s101 1 0 105) w105,
seqO (r_extract s101 2 0 106) w106,
seqO (r_alloc [oF,oF,oF,i0,i0,i0,i0,u0,oF,oF,oF,i0] 0 19) w19,
seqO (r_store 12 s19 s104 0 0) wN,
qMov s105 w20,
qMov s106 w21] 10)
(.seq (.region [seqO (r_load 12 true s1 0 107) w107,
seqO (r_call 7 [s107] 0 108) w108,
seqO (r_alloc [oF,oF,oF,i0,i0,i0,i0,u0,oF,oF,oF,i0] 0 22) w22,
seqO (r_store 12 s22 s108 0 0) wN] 4)
(.seq (.region [qFad 10 s22 w109,
qLd s109 w110,
seqO (r_indexAddr 6 s110 (cn 0) 0 111) w111,
qFad 0 s111 w112,
seqO (r_store 1 s112 (cb 2) 0 0) wN] 5)
(.seq (.region [seqO (r_load 12 true s22 0 114) w114,
seqO (r_call 8 [s114,(cn 0)] 8 115) w115,
qMov s115 w113,
seqO (r_extract s113 0 0 116) w116,
seqO (r_extract s113 1 0 117) w117,
seqO (r_extract s113 2 0 118) w118,
seqO (r_alloc [oF,oF,oF,i0,i0,i0,i0,u0,oF,oF,oF,i0] 0 23) w23,
seqO (r_store 12 s23 s116 0 0) wN,
qMov s117 w24,
qMov s118 w25] 10)
(.seq (.region [seqO (r_load 12 true s22 0 120) w120,
seqO (r_callF 9 [s120,(cn 0)] 0 121) w121,
qMov s121 w119,
seqO (r_extract s119 0 0 122) w122,
seqO (r_extract s119 1 0 123) w123,
seqO (r_alloc [u0,i0,i0,u0,u0] 0 26) w26,
seqO (r_store 5 s26 s122 0 0) wN,
qMov s123 w27] 8)
(.seq (.region [seqO (r_load 12 true s1 0 125) w125,
seqO (r_call 11 [s125,(cn 10)] 0 126) w126,
qMov s126 w124,
seqO (r_extract s124 0 0 127) w127,
seqO (r_extract s124 1 0 128) w128,
seqO (r_extract s124 2 0 129) w129,
seqO (r_alloc [oF,oF,oF,i0,i0,i0,i0,u0,oF,oF,oF,i0] 0 28) w28,
seqO (r_store 12 s28 s127 0 0) wN,
qMov s128 w29,
qMov s129 w30] 10)
(.seq (.seq (.region [qMov s30 w130,
seqO (r_un .not s130 0 131) w131,
qMov s131 w132,
gdO s132 false w133 (qFad 7 s28 w133),
gdO s132 false w134 (qFad 1 s133 w134),
gdO s132 false w135 (qLd s134 w135),
gdO s132 false w136 (seqO (r_len s135 0 136) w136),
gdO s132 false w137 (qBin bLss .lss s136 (cn 24) w137),
qPick s132 cT s137 w138,
qMov s138 w139,
gdO s139 false w140 (seqO (r_load 12 true s28 0 140) w140),
gdO s139 false w141 (seqO (r_callF 12 [s140] 0 141) w141),
gdO s139 false w142 (qBin bNeq .neq s141 (cn 0) w142),
qPick s139 cT s142 w143] 14)
(.cond s143 (.seq (.region [qMov cF w0] 1)
.ret)
.skip))
(.seq (.region [seqO (r_load 12 true s28 0 144) w144,
seqO (r_call 7 [s144] 0 145) w145,
seqO (r_alloc [oF,oF,oF,i0,i0,i0,i0,u0,oF,oF,oF,i0] 0 31) w31,
seqO (r_store 12 s31 s145 0 0) wN] 4)
(.seq (.region [qFad 7 s28 w146,
qFad 1 s146 w147,
qLd s147 w148,
seqO (r_len s148 0 149) w149,
qBin bAdd .add s149 (cn 39) w150,
qFad 3 s31 w151,
qFad 2 s151 w152,
seqO (r_store 1 s152 s150 0 0) wN] 8)
(.seq (.region [seqO (r_load 12 true s31 0 154) w154,
seqO (r_call 8 [s154,(cn 0)] 8 155) w155,
qMov s155 w153,
seqO (r_extract s153 0 0 156) w156,
seqO (r_extract s153 1 0 157) w157,
seqO (r_extract s153 2 0 158) w158,
seqO (r_alloc [oF,oF,oF,i0,i0,i0,i0,u0,oF,oF,oF,i0] 0 32) w32,
seqO (r_store 12 s32 s156 0 0) wN,
qMov s157 w33,
qMov s158 w34] 10)
(.seq (.region [seqO (r_load 12 true s28 0 160) w160,
seqO (r_call 8 [s160,(cn 0)] 0 161) w161,
qMov s161 w159,
seqO (r_extract s159 0 0 162) w162,
seqO (r_extract s159 1 0 163) w163,
seqO (r_extract s159 2 0 164) w164,
seqO (r_alloc [oF,oF,oF,i0,i0,i0,i0,u0,oF,oF,oF,i0] 0 35) w35,
seqO (r_store 12 s35 s162 0 0) wN,
qMov s163 w36,
qMov s164 w37] 10)
(.seq (.region [seqO (r_load 12 true s35 0 166) w166,
seqO (r_callF 10 [s166,(cn 0)] 0 167) w167,
qMov s167 w165,
seqO (r_extract s165 0 0 168) w168,
seqO (r_extract s165 1 0 169) w169,
qMov s168 w38,
qMov s169 w39] 7)
(.seq (.region [seqO (r_load 12 true s35 0 171) w171,
seqO (r_call 11 [s171,(cn 1)] 0 172) w172,
qMov s172 w170,
seqO (r_extract s170 0 0 173) w173,
seqO (r_extract s170 1 0 174) w174,
seqO (r_extract s170 2 0 175) w175,
seqO (r_store 12 s28 s173 0 0) wN,
qMov s175 w30] 8)
(.seq (.seq (.region [qMov s30 w176,
seqO (r_un .not s176 0 177) w177,
qMov s177 w178,
gdO s178 false w179 (seqO (r_load 12 true s28 0 179) w179),
gdO s178 false w180 (seqO (r_callF 12 [s179] 0 180) w180),
gdO s178 false w181 (qBin bNeq .neq s180 (cn 0) w181),
qPick s178 cT s181 w182,
qMov s182 w183,
gdO s183 false w184 (qFad 9 s28 w184),
gdO s183 false w185 (qLd s184 w185),
gdO s183 false w186 (seqO (r_len s185 0 186) w186),
gdO s183 false w187 (qBin bNeq .neq s186 (cn 1) w187),
qPick s183 cT s187 w188] 13)
(.cond s188 (.seq (.region [qMov cF w0] 1)
.ret)
.skip))
(.seq (.region [seqO (r_load 12 true s28 0 189) w189,
seqO (r_call 7 [s189] 0 190) w190,
seqO (r_alloc [oF,oF,oF,i0,i0,i0,i0,u0,oF,oF,oF,i0] 0 40) w40,
seqO (r_store 12 s40 s190 0 0) wN] 4)
(.seq (.region [qFad 3 s40 w191,
qFad 3 s191 w192,
seqO (r_store 1 s192 (cn 1) 0 0) wN] 3)
(.seq (.region [seqO (r_load 12 true s40 0 194) w194,
seqO (r_call 8 [s194,(cn 0)] 8 195) w195,
qMov s195 w193,
seqO (r_extract s193 0 0 196) w196,
seqO (r_extract s193 1 0 197) w197,
seqO (r_extract s193 2 0 198) w198,
seqO (r_alloc [oF,oF,oF,i0,i0,i0,i0,u0,oF,oF,oF,i0] 0 41) w41,
seqO (r_store 12 s41 s196 0 0) wN,
qMov s197 w42,
qMov s198 w43] 10)
(.seq (.region [seqO (r_load 12 true s28 0 200) w200,
seqO (r_call 8 [s200,(cn 0)] 0 201) w201,
qMov s201 w199,
seqO (r_extract s199 0 0 202) w202,
seqO (r_extract s199 1 0 203) w203,
seqO (r_extract s199 2 0 204) w204,
seqO (r_alloc [oF,oF,oF,i0,i0,i0,i0,u0,oF,oF,oF,i0] 0 44) w44,
seqO (r_store 12 s44 s202 0 0) wN,
qMov s203 w45,
qMov s204 w46] 10)
(.seq (.region [qMov cT w205,
gdO s205 true w206 (seqO (r_callF 13 [] 0 206) w206),
qPick s205 s206 cF w207,
qMov s207 w208,
gdO s208 true w209 (qMov s6 w209),
gdO s208 true w210 (qBin bEql .eql s209 (cn 8) w210),
qPick s208 s210 cF w211,
qMov s211 w212,
gdO s212 true w213 (qMov s8 w213),
gdO s212 true w214 (qBin bEql .eql s213 (cn 8) w214),
qPick s212 s214 cF w215,
qMov s215 w216,
gdO s216 true w217 (qMov s10 w217),
gdO s216 true w218 (qBin bEql .eql s217 (cn 8) w218),
qPick s216 s218 cF w219,
qMov s219 w220,
gdO s220 true w221 (qMov s13 w221),
gdO s220 true w222 (qBin bEql .eql s221 (cn 2) w222),
qPick s220 s222 cF w223,
qMov s223 w224,
gdO s224 true w225 (qMov s15 w225),
gdO s224 true w226 (qBin bEql .eql s225 (cn 2) w226),
qPick s224 s226 cF w227,
qMov s227 w228,
gdO s228 true w229 (qMov s17 w229),
gdO s228 true w230 (qBin bEql .eql s229 (cn 2) w230),
qPick s228 s230 cF w231,
qMov s231 w232,
gdO s232 true w233 (qMov s21 w233),
gdO s232 true w234 (qBin bEql .eql s233 (cn 36) w234),
qPick s232 s234 cF w235,
qMov s235 w236,
gdO s236 true w237 (qMov s25 w237),
gdO s236 true w238 (qBin bEql .eql s237 (cn 2) w238),
qPick s236 s238 cF w239,
qMov s239 w240,
gdO s240 true w241 (qMov s27 w241),
gdO s240 true w242 (qBin bEql .eql s241 (cn 0) w242),
qPick s240 s242 cF w243,
qMov s243 w244,
gdO s244 true w245 (qFad 2 s26 w245),
gdO s244 true w246 (qLd s245 w246),
gdO s244 true w247 (qBin bEql .eql s246 (cn 0) w247),
qPick s244 s247 cF w248,
qMov s248 w47] 45)
(.seq (.region [qMov s47 w249,
qMov s249 w250,
gdO s250 true w251 (qMov s33 w251),
gdO s250 true w252 (qBin bEql .eql s251 (cb 5) w252),
qPick s250 s252 cF w253,
qMov s253 w254,
gdO s254 true w255 (qMov s34 w255),
gdO s254 true w256 (qBin bEql .eql s255 (cn 0) w256),
qPick s254 s256 cF w257,
qMov s257 w258,
gdO s258 true w259 (seqO (r_load 12 true s32 0 259) w259),
gdO s258 true w260 (seqO (r_load 12 true s31 0 260) w260),
gdO s258 true w261 (seqO (r_callF 14 [s259,s260] 0 261) w261),
qPick s258 s261 cF w262,
qMov s262 w263,
gdO s263 true w264 (qMov s36 w264),
gdO s263 true w265 (qBin bEql .eql s264 (cb 0) w265),
qPick s263 s265 cF w266,
qMov s266 w267,
gdO s267 true w268 (qMov s37 w268),
gdO s267 true w269 (qBin bEql .eql s268 (cn 0) w269),
qPick s267 s269 cF w270,
qMov s270 w271,
gdO s271 true w272 (qMov s38 w272),
gdO s271 true w273 (qBin bEql .eql s272 (cn 1) w273),
qPick s271 s273 cF w274,
qMov s274 w275,
gdO s275 true w276 (qMov s39 w276),
gdO s275 true w277 (qBin bEql .eql s276 (cn 0) w277),
qPick s275 s277 cF w278,
qMov s278 w47] 31)
(.seq (.region [qMov s47 w279,
qMov s279 w280,
gdO s280 true w281 (qMov s42 w281),
gdO s280 true w282 (qBin bEql .eql s281 (cb 6) w282),
qPick s280 s282 cF w283,
qMov s283 w284,
gdO s284 true w285 (qMov s43 w285),
gdO s284 true w286 (qBin bEql .eql s285 (cn 0) w286),
qPick s284 s286 cF w287,
qMov s287 w288,
gdO s288 true w289 (seqO (r_load 12 true s41 0 289) w289),
gdO s288 true w290 (seqO (r_load 12 true s40 0 290) w290),
gdO s288 true w291 (seqO (r_callF 14 [s289,s290] 0 291) w291),
qPick s288 s291 cF w292,
qMov s292 w293,
gdO s293 true w294 (qMov s46 w294),
gdO s293 true w295 (qBin bEql .eql s294 (cn 0) w295),
qPick s293 s295 cF w296,
qMov s296 w297,
gdO s297 true w298 (qFad 10 s44 w298),
gdO s297 true w299 (qLd s298 w299),
gdO s297 true w300 (seqO (r_len s299 0 300) w300),
gdO s297 true w301 (qBin bEql .eql s300 (cn 2) w301),
qPick s297 s301 cF w302,
qMov s302 w303,
gdO s303 true w304 (qFad 10 s44 w304),
gdO s303 true w305 (qLd s304 w305),
gdO s303 true w306 (seqO (r_indexAddr 6 s305 (cn 1) 0 306) w306),
gdO s303 true w307 (qFad 1 s306 w307),
gdO s303 true w308 (qLd s307 w308),
gdO s303 true w309 (qBin bEql .eql s308 (cu 1024) w309),
qPick s303 s309 cF w310,
qMov s310 w311,
gdO s311 true w312 (seqO (r_load 12 true s35 0 312) w312),
gdO s311 true w313 (seqO (r_callF 15 [s312] 0 313) w313),
qPick s311 s313 cF w314,
qMov s314 w0] 37)
.ret)))))))))))))))))))))))))))))))))),false⟩
def q4:QFn:=⟨2,[.cell s4 12 true,.t s5],
(.seq (.region [seqO (r_box s0 0 2) w2,
seqO (r_box s1 0 3) w3,
seqO (r_alloc [oF,oF,oF,i0,i0,i0,i0,u0,oF,oF,oF,i0] 0 4) w4,
qMov cF w5] 4)
(.seq (.region [qFad 1 s2 w12,
qLd s12 w13,
qFad 2 s3 w14,
qLd s14 w15,
seqO (r_call 16 [s13,s15] 0 16) w16,
qMov s16 w11,
seqO (r_extract s11 0 0 17) w17,
seqO (r_extract s11 1 0 18) w18,
seqO (r_extract s11 2 0 19) w19,
seqO (r_alloc [u0,oF] 0 6) w6,
seqO (r_store 2 s6 s17 0 0) wN,
qMov s18 w7,
qMov s19 w8] 13)
(.seq (.region [seqO (r_load 3 true s2 0 20) w20,
seqO (r_call 17 [s20,(cn 0),(cu 0),(cu 0),(cu 0),(cK oF)] 0 21) w21,
qMov s21 w9] 3)
(.seq (.seq (.region [qMov s8 w22,
qBin bNeq .neq s22 (cn 0) w23,
qMov s23 w24,
gdO s24 false w25 (qMov s9 w25),
gdO s24 false w26 (seqO (r_len s25 0 26) w26),
gdO s24 false w27 (qFad 1 s3 w27),
gdO s24 false w28 (qLd s27 w28),
gdO s24 false w29 (qBin bGtr .gtr s26 s28 w29),
qPick s24 cT s29 w30,
qMov s30 w31,
gdO s31 false w32 (qFad 3 s3 w32),
gdO s31 false w33 (qLd s32 w33),
gdO s31 false w34 (qBin bLss .lss s33 (cn 1) w34),
qPick s31 cT s34 w35] 14)
(.cond s35 (.seq (.region [seqO (r_build [oF,oF,oF,i0,i0,i0,i0,u0,oF,oF,oF,i0] [] 0 36) w36,
seqO (r_store 12 s4 s36 0 0) wN,
qMov cF w5] 3)
.ret)
.skip))
(.seq (.region [seqO (r_callF 18 [(cn 0)] 0 37) w37,
qMov s9 w38,
seqO (r_build [u0,oF] [(0,1,s37),(1,1,s38)] 0 39) w39,
seqO (r_alloc [u0,oF] 0 10) w10,
seqO (r_store 2 s10 s39 0 0) wN] 5)
(.seq (.draw [⟨(r_load 3 true s2 0 40),w40,0⟩,
⟨(r_call 19 [s40] 0 41),w41,1⟩,
⟨(r_load 4 true s3 0 42),w42,0⟩,
⟨(r_load 2 true s6 0 43),w43,0⟩,
⟨(r_load 2 true s10 0 44),w44,0⟩,
⟨(r_buildSlice 2 1 [du,(.sl [])] [(0,s44)] 1 45),w45,16⟩,
⟨(r_callF 20 [(cn 0),(cn 0)] 0 46),w46,3⟩,
⟨(r_fieldAddr 0 s10 0 47),w47,0⟩,
⟨(r_load 1 false s47 0 48),w48,128⟩,
⟨(r_mov s9 0 49),w49,0⟩,
⟨(r_len s49 0 50),w50,512⟩,
⟨(r_conv .u64 s50 0 51),w51,1536⟩,
⟨(r_bin .add s48 s51 0 52),w52,3968⟩,
⟨(r_build [b0,u0,u0,u0,u0,i0] [(0,1,(cb 1)),(1,1,s46),(2,1,s52)] 0 53),w53,8131⟩,
⟨(r_buildSlice 6 1 [db,du,du,du,du,di] [(0,s53)] 1 54),w54,16323⟩,
⟨(r_build [oF,oF,oF,i0,i0,i0,i0,u0,oF,oF,oF,i0] [(0,3,s41),(3,4,s42),(7,2,s43),(9,1,s45),(10,1,s54)] 0 55),w55,32767⟩,
⟨(r_store 12 s4 s55 0 0),wN,65535⟩,
⟨(r_mov cT 0 5),w5,131071⟩] 18)
.ret)))))),false⟩
def q5:QFn:=⟨1,[.cell s2 3 true],
(.seq (.region [seqO (r_alloc [oF,oF,oF] 0 2) w2] 1)
(.seq (.region [seqO (r_callF 21 [(cb 1),(cn 0),(cn 5),(cn 0)] 0 8) w8,
seqO (r_callF 21 [(cb 3),(cn 1),(cn 1),(cn 0)] 0 9) w9,
seqO (r_callF 21 [(cb 2),(cn 2),(cn 0),(cn 0)] 0 10) w10,
seqO (r_callF 21 [(cb 15),(cn 3),(cn 0),(cn 0)] 0 11) w11,
seqO (r_callF 21 [(cb 4),(cn 4),(cn 0),(cn 0)] 0 12) w12,
seqO (r_callF 21 [(cb 4),(cn 5),(cn 0),(cn 0)] 0 13) w13,
seqO (r_callF 21 [(cb 1),(cn 7),(cn 2),(cn 0)] 0 14) w14,
seqO (r_callF 21 [(cb 18),(cn 6),(cn 7),(cn 0)] 0 15) w15,
seqO (r_callF 21 [(cb 15),(cn 8),(cn 0),(cn 0)] 0 16) w16,
seqO (r_buildSlice 4 9 [db,di,di,di] [(0,s8),(1,s9),(2,s10),(3,s11),(4,s12),(5,s13),(6,s14),(7,s15),(8,s16)] 0 17) w17,
qMov s17 w3] 11)
(.seq (.seq (.region [qMov (cn 0) w4] 1)
(.block 0 (.loop (.seq (.seq (.region [qMov s4 w18,
qMov s0 w19,
seqO (r_len s19 0 20) w20,
qBin bLss .lss s18 s20 w21] 4)
(.cond s21 .skip
(.exit 0)))
(.seq (.block 1 (.region [qMov s3 w24,
qMov s0 w25,
qMov s4 w26,
seqO (r_indexAddr 1 s25 s26 0 27) w27,
qLd s27 w28,
qMov s3 w29,
seqO (r_len s29 0 30) w30,
seqO (r_call 22 [s28,s30] 0 31) w31,
seqO (r_append 4 32 s24 s31 0 32) w32,
qMov s32 w3] 10))
(.region [qMov s4 w22,
qBin bAdd .add s22 (cn 1) w23,
qMov s23 w4] 3))))))
(.seq (.region [qMov s3 w33,
seqO (r_callF 23 [] 0 34) w34,
seqO (r_buildSlice 4 1 [db,di,di,di] [(0,s34)] 0 35) w35,
seqO (r_append 4 32 s33 s35 0 36) w36,
qMov s36 w3] 5)
(.seq (.region [seqO (r_build [b0,i0,i0,oF] [(0,1,(cb 2))] 0 37) w37,
seqO (r_build [b0,i0,i0,oF] [(0,1,(cb 1))] 0 38) w38,
seqO (r_build [b0,i0,i0,oF] [(0,1,(cb 3))] 0 39) w39,
seqO (r_build [b0,i0,i0,oF] [(0,1,(cb 4))] 0 40) w40,
seqO (r_build [(.d (.sc (.string ⟨#[]⟩))),i0] [(0,1,(cK (.d (.sc (.string ⟨#[110]⟩)))))] 0 41) w41,
seqO (r_build [(.d (.sc (.string ⟨#[]⟩))),i0] [(0,1,(cK (.d (.sc (.string ⟨#[111,110]⟩))))),(1,1,(cn 1))] 0 42) w42,
seqO (r_build [(.d (.sc (.string ⟨#[]⟩))),i0] [(0,1,(cK (.d (.sc (.string ⟨#[97,116]⟩))))),(1,1,(cn 3))] 0 43) w43,
seqO (r_buildSlice 2 3 [(.sc (.string ⟨#[]⟩)),di] [(0,s41),(1,s42),(2,s43)] 0 44) w44,
seqO (r_build [b0,i0,i0,oF] [(0,1,(cb 5)),(3,1,s44)] 0 45) w45,
seqO (r_build [b0,i0,i0,oF] [(0,1,(cb 6)),(2,1,(cn 3))] 0 46) w46,
seqO (r_build [b0,i0,i0,oF] [(0,1,(cb 7))] 0 47) w47,
seqO (r_build [b0,i0,i0,oF] [(0,1,(cb 4)),(1,1,(cn 4))] 0 48) w48,
seqO (r_buildSlice 4 8 [db,di,di,(.sl [])] [(0,s37),(1,s38),(2,s39),(3,s40),(4,s45),(5,s46),(6,s47),(7,s48)] 0 49) w49,
seqO (r_buildSlice 1 3 [(.sc (.string ⟨#[]⟩))] [(0,(cK (.d (.sc (.string ⟨#[108,97,116,101]⟩))))),(1,(cK (.d (.sc (.string ⟨#[116,97,115,107]⟩))))),(2,(cK (.d (.sc (.string ⟨#[98,111,111,109]⟩)))))] 0 50) w50,
seqO (r_buildSlice 1 9 [di] [(0,(cn 0)),(1,(cn 1)),(2,(cn 2)),(3,(cn 3)),(4,(cn 4)),(5,(cn 5)),(6,(cn 6)),(7,(cn 0)),(8,(cn 7))] 0 51) w51,
qMov s3 w52,
seqO (r_call 24 [(cK (.d (.sc (.string ⟨#[109,97,105,110]⟩)))),(cK (.d (.sc (.string ⟨#[110,111,115,112,114,97,108,107,113]⟩)))),s51,(cn 0),(cm 0),s52] 0 53) w53,
seqO (r_buildSlice 7 1 [(.sc (.string ⟨#[]⟩)),di,di,(.sl []),(.sl []),(.sl []),(.sl [])] [(0,s53)] 0 54) w54,
seqO (r_call 25 [] 0 55) w55,
seqO (r_append 7 128 s54 s55 0 56) w56,
seqO (r_build [oF,oF,oF] [(0,1,s49),(1,1,s50),(2,1,s56)] 0 57) w57,
seqO (r_alloc [oF,oF,oF] 0 5) w5,
seqO (r_store 3 s5 s57 0 0) wN] 23)
(.seq (.region [seqO (r_load 3 true s5 0 59) w59,
seqO (r_call 26 [s59] 0 60) w60,
qMov s60 w58,
seqO (r_extract s58 0 0 61) w61,
seqO (r_extract s58 1 0 62) w62,
seqO (r_alloc [oF,oF,oF] 0 6) w6,
seqO (r_store 3 s6 s61 0 0) wN,
qMov s62 w7] 8)
(.seq (.region [seqO (r_load 3 true s6 0 63) w63,
seqO (r_store 3 s2 s63 0 0) wN] 2)
.ret))))))),false⟩
def q6:QFn:=⟨0,[.cell s0 4 true],
(.seq (.region [seqO (r_alloc [i0,i0,i0,i0] 0 0) w0] 1)
(.seq (.region [seqO (r_build [i0,i0,i0,i0] [(0,1,(cn 1000)),(1,1,(cn 2048)),(2,1,(cn 4096)),(3,1,(cn 4))] 0 1) w1,
seqO (r_store 4 s0 s1 0 0) wN] 2)
.ret)),false⟩
def q7:QFn:=⟨1,[.cell s2 12 true],
(.seq (.region [seqO (r_box s0 0 1) w1,
seqO (r_alloc [oF,oF,oF,i0,i0,i0,i0,u0,oF,oF,oF,i0] 0 2) w2] 2)
(.seq (.region [seqO (r_load 12 true s1 0 5) w5,
seqO (r_alloc [oF,oF,oF,i0,i0,i0,i0,u0,oF,oF,oF,i0] 0 3) w3,
seqO (r_store 12 s3 s5 0 0) wN] 3)
(.seq (.region [qFad 0 s1 w6,
seqO (r_load 3 true s6 0 7) w7,
seqO (r_call 19 [s7] 0 8) w8,
qFad 0 s3 w9,
seqO (r_store 3 s9 s8 0 0) wN] 5)
(.seq (.region [qFad 7 s1 w10,
seqO (r_load 2 true s10 0 11) w11,
seqO (fr fun d=>r_call 27 [s11] 65538 d) w12,
qFad 7 s3 w13,
seqO (r_store 2 s13 s12 0 0) wN] 5)
(.seq (.region [qFad 9 s3 w14,
seqO (r_store 1 s14 (cK oF) 0 0) wN] 2)
(.seq (.seq (.region [qMov (cn 0) w4] 1)
(.block 0 (.loop (.seq (.seq (.region [qMov s4 w15,
qFad 9 s1 w16,
qLd s16 w17,
seqO (r_len s17 0 18) w18,
qBin bLss .lss s15 s18 w19] 5)
(.cond s19 .skip
(.exit 0)))
(.seq (.block 1 (.draw [⟨(r_fieldAddr 9 s3 0 22),w22,0⟩,
⟨(r_load 1 false s22 0 23),w23,1⟩,
⟨(r_fieldAddr 9 s1 0 24),w24,0⟩,
⟨(r_load 1 false s24 0 25),w25,4⟩,
⟨(r_mov s4 0 26),w26,0⟩,
⟨(r_indexAddr 2 s25 s26 0 27),w27,28⟩,
⟨(r_load 2 true s27 0 28),w28,60⟩,
⟨(fr fun d=>r_call 27 [s28] 65538 d),w29,124⟩,
⟨(r_buildSlice 2 1 [du,(.sl [])] [(0,s29)] 2 30),w30,252⟩,
⟨(fr fun d=>r_append 2 32 s23 s30 11 d),w31,511⟩,
⟨(r_fieldAddr 9 s3 0 32),w32,1023⟩,
⟨(r_store 1 s32 s31 0 0),wN,2047⟩] 12))
(.region [qMov s4 w20,
qBin bAdd .add s20 (cn 1) w21,
qMov s21 w4] 3))))))
(.seq (.region [qFad 10 s1 w33,
qLd s33 w34,
seqO (fr fun d=>r_call 28 [s34] 393217 d) w35,
qFad 10 s3 w36,
seqO (r_store 1 s36 s35 0 0) wN] 5)
(.seq (.region [seqO (r_load 12 true s3 0 37) w37,
seqO (r_store 12 s2 s37 0 0) wN] 2)
.ret)))))))),true⟩
def q8:QFn:=⟨2,[.cell s4 12 true,.t s5,.t s6],
(.seq (.region [seqO (r_box s0 0 2) w2,
seqO (r_alloc [oF,oF,oF,i0,i0,i0,i0,u0,oF,oF,oF,i0] 0 4) w4,
qMov (cb 0) w5,
qMov (cn 0) w6] 4)
(.seq (.seq (.region [seqO (r_load 12 true s2 0 14) w14,
qMov s1 w15,
seqO (r_callF 29 [s14,s15] 0 16) w16,
qMov s16 w7] 4)
(.seq (.region [qMov s7 w17,
qBin bNeq .neq s17 (cn 0) w18] 2)
(.cond s18 (.seq (.region [seqO (r_build [oF,oF,oF,i0,i0,i0,i0,u0,oF,oF,oF,i0] [] 0 19) w19,
qMov s7 w20,
seqO (r_store 12 s4 s19 0 0) wN,
qMov (cb 0) w5,
qMov s20 w6] 5)
.ret)
.skip)))
(.seq (.seq (.region [qFad 10 s2 w21,
qLd s21 w22,
qMov s1 w23,
seqO (r_indexAddr 6 s22 s23 0 24) w24,
qFad 0 s24 w25,
qLd s25 w26,
qBin bNeq .neq s26 (cb 1) w27] 7)
(.cond s27 (.seq (.region [seqO (r_build [oF,oF,oF,i0,i0,i0,i0,u0,oF,oF,oF,i0] [] 0 28) w28,
seqO (r_store 12 s4 s28 0 0) wN,
qMov (cb 0) w5,
qMov (cn 2) w6] 4)
.ret)
.skip))
(.seq (.seq (.region [qFad 11 s2 w29,
qLd s29 w30,
qFad 3 s2 w31,
qFad 0 s31 w32,
qLd s32 w33,
qBin bEql .eql s30 s33 w34] 6)
(.cond s34 (.seq (.region [seqO (r_build [oF,oF,oF,i0,i0,i0,i0,u0,oF,oF,oF,i0] [] 0 35) w35,
seqO (r_store 12 s4 s35 0 0) wN,
qMov (cb 0) w5,
qMov (cn 36) w6] 4)
.ret)
.skip))
(.seq (.region [seqO (r_load 12 true s2 0 36) w36,
qMov s1 w37,
seqO (r_call 30 [s36,s37] 0 38) w38,
qMov s38 w8] 4)
(.seq (.region [qMov (cn 0) w9] 1)
(.seq (.seq (.region [qMov s8 w39,
seqO (r_nilCheck s39 0 40) w40,
qFad 18 s40 w41,
qFad 0 s41 w42,
qLd s42 w43,
seqO (r_callF 31 [s43] 0 44) w44] 6)
(.cond s44 (.seq (.region [seqO (r_load 12 true s2 0 46) w46,
qMov s1 w47,
seqO (r_call 32 [s46,s47] 0 48) w48,
qMov s48 w45,
seqO (r_extract s45 0 0 49) w49,
seqO (r_extract s45 1 0 50) w50,
seqO (r_extract s45 2 0 51) w51,
seqO (r_alloc [oF,oF,oF,i0,i0,i0,i0,u0,oF,oF,oF,i0] 0 10) w10,
seqO (r_alloc [i0,b0] 0 11) w11,
seqO (r_store 12 s10 s49 0 0) wN,
seqO (r_store 2 s11 s50 0 0) wN,
qMov s51 w12] 12)
(.seq (.seq (.region [qMov s12 w52,
qBin bNeq .neq s52 (cn 0) w53,
qMov s53 w54,
gdO s54 false w55 (qFad 0 s11 w55),
gdO s54 false w56 (qLd s55 w56),
gdO s54 false w57 (qBin bEql .eql s56 (cn 0) w57),
qPick s54 cT s57 w58] 7)
(.cond s58 (.seq (.draw [⟨(r_load 12 true s10 0 59),w59,0⟩,
⟨(r_fieldAddr 1 s11 0 60),w60,0⟩,
⟨(r_load 1 false s60 0 61),w61,2⟩,
⟨(r_mov s12 0 62),w62,0⟩,
⟨(r_store 12 s4 s59 0 0),wN,1⟩,
⟨(r_mov s61 0 5),w5,23⟩,
⟨(r_mov s62 0 6),w6,63⟩] 7)
.ret)
.skip))
(.region [qFad 0 s11 w63,
qLd s63 w64,
qMov s64 w9] 3)))
.skip))
(.seq (.region [qMov s8 w65,
qMov s9 w66,
seqO (r_call 33 [s65,s66] 0 67) w67,
seqO (r_alloc [b0,i0] 0 13) w13,
seqO (r_store 2 s13 s67 0 0) wN] 5)
(.seq (.block 0 (.seq (.region [qFad 1 s13 w69,
qLd s69 w70,
qBin bNeq .neq s70 (cn 0) w71,
qMov s71 w68] 4)
(.cond s68 (.seq (.draw [⟨(r_build [oF,oF,oF,i0,i0,i0,i0,u0,oF,oF,oF,i0] [] 0 72),w72,0⟩,
⟨(r_fieldAddr 1 s13 0 73),w73,0⟩,
⟨(r_load 1 false s73 0 74),w74,2⟩,
⟨(r_store 12 s4 s72 0 0),wN,1⟩,
⟨(r_mov (cb 0) 0 5),w5,9⟩,
⟨(r_mov s74 0 6),w6,31⟩] 6)
.ret)
(.seq (.region [qFad 0 s13 w76,
qLd s76 w77,
qBin bGeq .geq s77 (cb 4) w78,
qMov s78 w75] 4)
(.cond s75 (.seq (.draw [⟨(r_load 12 true s2 0 79),w79,0⟩,
⟨(r_call 34 [s79] 14293651161088 80),w80,1⟩,
⟨(r_fieldAddr 0 s13 0 81),w81,0⟩,
⟨(r_load 1 false s81 0 82),w82,4⟩,
⟨(r_store 12 s4 s80 0 0),wN,3⟩,
⟨(r_mov s82 0 5),w5,31⟩,
⟨(r_mov (cn 0) 0 6),w6,63⟩] 7)
.ret)
.skip)))))
(.seq (.region [qMov s8 w83,
seqO (r_nilCheck s83 0 84) w84,
qFad 0 s84 w85,
qFad 11 s85 w86,
qLd s86 w87,
qBin bAdd .add s87 (cn 1) w88,
seqO (r_nilCheck s83 0 89) w89,
qFad 0 s89 w90,
qFad 11 s90 w91,
seqO (r_store 1 s91 s88 0 0) wN] 10)
(.seq (.draw [⟨(r_mov s8 0 92),w92,0⟩,
⟨(r_nilCheck s92 0 93),w93,1⟩,
⟨(r_fieldAddr 0 s93 0 94),w94,3⟩,
⟨(r_load 12 true s94 0 95),w95,7⟩,
⟨(r_fieldAddr 0 s13 0 96),w96,0⟩,
⟨(r_load 1 false s96 0 97),w97,16⟩,
⟨(r_store 12 s4 s95 0 0),wN,15⟩,
⟨(r_mov s97 0 5),w5,127⟩,
⟨(r_mov (cn 0) 0 6),w6,255⟩] 9)
.ret))))))))))),false⟩
def q9:QFn:=⟨2,[.cell s4 5 true,.t s5],
(.seq (.region [seqO (r_box s0 0 2) w2,
seqO (r_alloc [u0,i0,i0,u0,u0] 0 4) w4,
qMov (cn 0) w5] 3)
(.seq (.seq (.region [seqO (r_load 12 true s2 0 7) w7,
qMov s1 w8,
seqO (r_callF 29 [s7,s8] 0 9) w9,
qMov s9 w6] 4)
(.seq (.region [qMov s6 w10,
qBin bNeq .neq s10 (cn 0) w11] 2)
(.cond s11 (.seq (.region [seqO (r_build [u0,i0,i0,u0,u0] [] 0 12) w12,
qMov s6 w13,
seqO (r_store 5 s4 s12 0 0) wN,
qMov s13 w5] 4)
.ret)
.skip)))
(.seq (.region [seqO (r_load 12 true s2 0 14) w14,
qMov s1 w15,
seqO (r_call 30 [s14,s15] 0 16) w16,
seqO (r_nilCheck s16 0 17) w17,
qFad 13 s17 w18,
seqO (r_load 5 true s18 0 19) w19,
seqO (r_store 5 s4 s19 0 0) wN,
qMov (cn 0) w5] 8)
.ret))),false⟩
def q10:QFn:=⟨2,[.t s4,.t s5],
(.seq (.region [seqO (r_box s0 0 2) w2,
qMov (cn 0) w4,
qMov (cn 0) w5] 3)
(.seq (.seq (.region [seqO (r_load 12 true s2 0 9) w9,
qMov s1 w10,
seqO (r_callF 29 [s9,s10] 0 11) w11,
qMov s11 w6] 4)
(.seq (.region [qMov s6 w12,
qBin bNeq .neq s12 (cn 0) w13] 2)
(.cond s13 (.seq (.region [qMov s6 w14,
qMov (cn 0) w4,
qMov s14 w5] 3)
.ret)
.skip)))
(.seq (.draw [⟨(r_fieldAddr 7 s2 0 16),w16,0⟩,
⟨(r_load 2 true s16 0 17),w17,1⟩,
⟨(r_fieldAddr 10 s2 0 18),w18,0⟩,
⟨(r_load 1 false s18 0 19),w19,4⟩,
⟨(r_mov s1 0 20),w20,0⟩,
⟨(r_indexAddr 6 s19 s20 0 21),w21,28⟩,
⟨(r_fieldAddr 3 s21 0 22),w22,60⟩,
⟨(r_load 1 false s22 0 23),w23,124⟩,
⟨(r_call 35 [s17,s23] 0 24),w24,255⟩,
⟨(r_mov s24 0 15),w15,511⟩,
⟨(r_extract s15 0 0 25),w25,1023⟩,
⟨(r_extract s15 1 0 26),w26,1023⟩,
⟨(r_mov s25 0 7),w7,2047⟩,
⟨(r_mov s26 0 8),w8,8191⟩] 14)
(.seq (.seq (.region [qMov s8 w27,
qBin bNeq .neq s27 (cn 0) w28] 2)
(.cond s28 (.seq (.region [qMov (cn 0) w4,
qMov (cn 36) w5] 2)
.ret)
.skip))
(.seq (.region [qMov s7 w29,
seqO (r_len s29 0 30) w30,
qFad 7 s2 w31,
seqO (r_load 2 true s31 0 32) w32,
seqO (r_callF 36 [s32] 0 33) w33,
qMov s30 w4,
qMov s33 w5] 7)
.ret))))),false⟩
def q11:QFn:=⟨2,[.cell s4 12 true,.t s5,.t s6],
(.seq (.region [seqO (r_box s0 0 2) w2,
seqO (r_alloc [oF,oF,oF,i0,i0,i0,i0,u0,oF,oF,oF,i0] 0 4) w4,
qMov (cb 0) w5,
qMov cF w6] 4)
(.seq (.seq (.region [qMov (cn 0) w7] 1)
(.block 0 (.loop (.seq (.seq (.region [qMov s7 w11,
qMov s1 w12,
qBin bLss .lss s11 s12 w13] 3)
(.cond s13 .skip
(.exit 0)))
(.seq (.block 1 (.seq (.seq (.region [qFad 10 s2 w16,
qLd s16 w17,
seqO (r_len s17 0 18) w18,
qBin bEql .eql s18 (cn 0) w19,
qMov s19 w20,
gdO s20 false w21 (qFad 10 s2 w21),
gdO s20 false w22 (qLd s21 w22),
gdO s20 false w23 (seqO (r_indexAddr 6 s22 (cn 0) 0 23) w23),
gdO s20 false w24 (qFad 0 s23 w24),
gdO s20 false w25 (qLd s24 w25),
gdO s20 false w26 (qBin bNeq .neq s25 (cb 1) w26),
qPick s20 cT s26 w27] 12)
(.cond s27 (.seq (.region [seqO (r_load 12 true s2 0 28) w28,
seqO (r_store 12 s4 s28 0 0) wN,
qMov (cb 0) w5,
qMov cT w6] 4)
.ret)
.skip))
(.seq (.region [seqO (r_load 12 true s2 0 30) w30,
seqO (r_call 8 [s30,(cn 0)] 0 31) w31,
qMov s31 w29,
seqO (r_extract s29 0 0 32) w32,
seqO (r_extract s29 1 0 33) w33,
seqO (r_extract s29 2 0 34) w34,
seqO (r_alloc [oF,oF,oF,i0,i0,i0,i0,u0,oF,oF,oF,i0] 0 8) w8,
seqO (r_store 12 s8 s32 0 0) wN,
qMov s33 w9,
qMov s34 w10] 10)
(.seq (.seq (.region [qMov s10 w35,
qBin bNeq .neq s35 (cn 0) w36,
qMov s36 w37,
gdO s37 false w38 (seqO (r_load 12 true s8 0 38) w38),
gdO s37 false w39 (seqO (r_callF 12 [s38] 0 39) w39),
gdO s37 false w40 (qBin bNeq .neq s39 (cn 0) w40),
qPick s37 cT s40 w41] 7)
(.cond s41 (.seq (.region [seqO (r_load 12 true s2 0 42) w42,
seqO (r_store 12 s4 s42 0 0) wN,
qMov (cb 0) w5,
qMov cF w6] 4)
.ret)
.skip))
(.seq (.region [seqO (r_load 12 true s8 0 43) w43,
seqO (r_store 12 s2 s43 0 0) wN] 2)
(.seq (.region [qMov s9 w44,
qBin bNeq .neq s44 (cb 0) w45] 2)
(.cond s45 (.seq (.region [seqO (r_load 12 true s2 0 46) w46,
qMov s9 w47,
seqO (r_store 12 s4 s46 0 0) wN,
qMov s47 w5,
qMov cT w6] 5)
.ret)
.skip)))))))
(.region [qMov s7 w14,
qBin bAdd .add s14 (cn 1) w15,
qMov s15 w7] 3))))))
(.seq (.region [seqO (r_load 12 true s2 0 48) w48,
seqO (r_store 12 s4 s48 0 0) wN,
qMov (cb 0) w5,
qMov cT w6] 4)
.ret))),false⟩
def q12:QFn:=⟨1,[.t s2],
(.seq (.region [seqO (r_box s0 0 1) w1,
qMov (cn 0) w2] 2)
(.seq (.seq (.region [qFad 0 s1 w11,
seqO (r_load 3 true s11 0 12) w12,
seqO (r_callF 37 [s12] 0 13) w13,
qBin bNeq .neq s13 (cn 0) w14,
qMov s14 w15,
gdO s15 false w16 (qFad 3 s1 w16),
gdO s15 false w17 (seqO (r_load 4 true s16 0 17) w17),
gdO s15 false w18 (seqO (r_callF 38 [s17] 0 18) w18),
gdO s15 false w19 (seqO (r_un .not s18 0 19) w19),
qPick s15 cT s19 w20,
qMov s20 w21,
gdO s21 false w22 (qFad 11 s1 w22),
gdO s21 false w23 (qLd s22 w23),
gdO s21 false w24 (qBin bLss .lss s23 (cn 0) w24),
qPick s21 cT s24 w25,
qMov s25 w26,
gdO s26 false w27 (qFad 11 s1 w27),
gdO s26 false w28 (qLd s27 w28),
gdO s26 false w29 (qFad 3 s1 w29),
gdO s26 false w30 (qFad 0 s29 w30),
gdO s26 false w31 (qLd s30 w31),
gdO s26 false w32 (qBin bGtr .gtr s28 s31 w32),
qPick s26 cT s32 w33] 23)
(.cond s33 (.seq (.region [qMov (cn 8) w2] 1)
.ret)
.skip))
(.seq (.seq (.region [qFad 7 s1 w34,
seqO (r_load 2 true s34 0 35) w35,
seqO (r_callF 39 [s35] 0 36) w36,
seqO (r_un .not s36 0 37) w37,
qMov s37 w38,
gdO s38 false w39 (qFad 7 s1 w39),
gdO s38 false w40 (qFad 1 s39 w40),
gdO s38 false w41 (qLd s40 w41),
gdO s38 false w42 (seqO (r_len s41 0 42) w42),
gdO s38 false w43 (qFad 3 s1 w43),
gdO s38 false w44 (qFad 2 s43 w44),
gdO s38 false w45 (qLd s44 w45),
gdO s38 false w46 (qBin bGtr .gtr s42 s45 w46),
qPick s38 cT s46 w47,
qMov s47 w48,
gdO s48 false w49 (qFad 10 s1 w49),
gdO s48 false w50 (qLd s49 w50),
gdO s48 false w51 (seqO (r_callF 40 [s50] 0 51) w51),
gdO s48 false w52 (qBin bNeq .neq s51 (cn 0) w52),
qPick s48 cT s52 w53,
qMov s53 w54,
gdO s54 false w55 (qFad 10 s1 w55),
gdO s54 false w56 (qLd s55 w56),
gdO s54 false w57 (seqO (r_len s56 0 57) w57),
gdO s54 false w58 (qFad 3 s1 w58),
gdO s54 false w59 (qFad 3 s58 w59),
gdO s54 false w60 (qLd s59 w60),
gdO s54 false w61 (qBin bGtr .gtr s57 s60 w61),
qPick s54 cT s61 w62,
qMov s62 w63,
gdO s63 false w64 (qFad 9 s1 w64),
gdO s63 false w65 (qLd s64 w65),
gdO s63 false w66 (seqO (r_len s65 0 66) w66),
gdO s63 false w67 (qFad 10 s1 w67),
gdO s63 false w68 (qLd s67 w68),
gdO s63 false w69 (seqO (r_len s68 0 69) w69),
gdO s63 false w70 (qBin bNeq .neq s66 s69 w70),
qPick s63 cT s70 w71] 38)
(.cond s71 (.seq (.region [qMov (cn 8) w2] 1)
.ret)
.skip))
(.seq (.region [qFad 0 s1 w73,
qFad 1 s73 w74,
qLd s74 w75,
qFad 3 s1 w76,
qFad 2 s76 w77,
qLd s77 w78,
seqO (r_call 16 [s75,s78] 0 79) w79,
qMov s79 w72,
seqO (r_extract s72 0 0 80) w80,
seqO (r_extract s72 1 0 81) w81,
seqO (r_extract s72 2 0 82) w82,
seqO (r_alloc [u0,oF] 0 3) w3,
seqO (r_store 2 s3 s80 0 0) wN,
qMov s81 w4,
qMov s82 w5] 15)
(.seq (.seq (.draw [⟨(r_mov s5 0 83),w83,0⟩,
⟨(r_bin .neq s83 (cn 0) 0 84),w84,1⟩,
⟨(r_mov s84 0 85),w85,3⟩,
⟨gdR s85 false (r_fieldAddr 1 s3 0 86),w86,7⟩,
⟨gdR s85 false (r_load 1 false s86 0 87),w87,15⟩,
⟨gdR s85 false (r_len s87 0 88),w88,31⟩,
⟨gdR s85 false (r_fieldAddr 7 s1 0 89),w89,7⟩,
⟨gdR s85 false (r_fieldAddr 1 s89 0 90),w90,71⟩,
⟨gdR s85 false (r_load 1 false s90 0 91),w91,199⟩,
⟨gdR s85 false (r_len s91 0 92),w92,455⟩,
⟨gdR s85 false (r_bin .gtr s88 s92 0 93),w93,1023⟩,
⟨(r_pick s85 cT s93 0 94),w94,2047⟩,
⟨(r_mov s94 0 95),w95,4095⟩,
⟨gdR s95 false (r_fieldAddr 1 s3 0 96),w96,8191⟩,
⟨gdR s95 false (r_load 1 false s96 0 97),w97,16383⟩,
⟨gdR s95 false (r_b2s s97 0 98),w98,32767⟩,
⟨gdR s95 false (r_fieldAddr 7 s1 0 99),w99,8191⟩,
⟨gdR s95 false (r_fieldAddr 1 s99 0 100),w100,73727⟩,
⟨gdR s95 false (r_load 1 false s100 0 101),w101,204799⟩,
⟨gdR s95 false (r_fieldAddr 1 s3 0 102),w102,8191⟩,
⟨gdR s95 false (r_load 1 false s102 0 103),w103,532479⟩,
⟨gdR s95 false (r_len s103 0 104),w104,1581055⟩,
⟨gdR s95 false (r_slice 1 s101 none (some s104) none 0 105),w105,4136959⟩,
⟨gdR s95 false (r_b2s s105 0 106),w106,8331263⟩,
⟨gdR s95 false (r_bin .neq s98 s106 0 107),w107,16777215⟩,
⟨(r_pick s95 cT s107 0 108),w108,33554431⟩] 26)
(.cond s108 (.seq (.region [qMov (cn 8) w2] 1)
.ret)
.skip))
(.seq (.seq (.region [qMov (cn 0) w6] 1)
(.block 0 (.loop (.seq (.seq (.region [qMov s6 w109,
qFad 9 s1 w110,
qLd s110 w111,
seqO (r_len s111 0 112) w112,
qBin bLss .lss s109 s112 w113] 5)
(.cond s113 .skip
(.exit 0)))
(.seq (.block 1 (.seq (.draw [⟨(r_fieldAddr 9 s1 0 116),w116,0⟩,
⟨(r_load 1 false s116 0 117),w117,1⟩,
⟨(r_mov s6 0 118),w118,0⟩,
⟨(r_indexAddr 2 s117 s118 0 119),w119,7⟩,
⟨(r_load 2 true s119 0 120),w120,15⟩,
⟨(r_fieldAddr 10 s1 0 121),w121,0⟩,
⟨(r_load 1 false s121 0 122),w122,32⟩,
⟨(r_mov s6 0 123),w123,0⟩,
⟨(r_indexAddr 6 s122 s123 0 124),w124,224⟩,
⟨(r_load 6 true s124 0 125),w125,480⟩,
⟨(r_alloc [u0,oF] 0 7),w7,0⟩,
⟨(r_alloc [b0,u0,u0,u0,u0,i0] 0 8),w8,0⟩,
⟨(r_store 2 s7 s120 0 0),wN,3103⟩,
⟨(r_store 6 s8 s125 0 0),wN,8191⟩] 14)
(.seq (.seq (.draw [⟨(r_fieldAddr 0 s7 0 126),w126,0⟩,
⟨(r_load 1 false s126 0 127),w127,1⟩,
⟨(r_mov s6 0 128),w128,0⟩,
⟨(r_callF 18 [s128] 0 129),w129,4⟩,
⟨(r_bin .neq s127 s129 0 130),w130,15⟩,
⟨(r_mov s130 0 131),w131,31⟩,
⟨gdR s131 false (r_load 2 true s7 0 132),w132,63⟩,
⟨gdR s131 false (r_callF 41 [s132] 0 133),w133,127⟩,
⟨gdR s131 false (r_un .not s133 0 134),w134,255⟩,
⟨(r_pick s131 cT s134 0 135),w135,511⟩,
⟨(r_mov s135 0 136),w136,1023⟩,
⟨gdR s136 false (r_fieldAddr 0 s7 0 137),w137,2047⟩,
⟨gdR s136 false (r_load 1 false s137 0 138),w138,4095⟩,
⟨gdR s136 false (r_fieldAddr 1 s7 0 139),w139,2047⟩,
⟨gdR s136 false (r_load 1 false s139 0 140),w140,10239⟩,
⟨gdR s136 false (r_len s140 0 141),w141,26623⟩,
⟨gdR s136 false (r_conv .u64 s141 0 142),w142,59391⟩,
⟨gdR s136 false (r_bin .add s138 s142 0 143),w143,131071⟩,
⟨gdR s136 false (r_fieldAddr 2 s8 0 144),w144,2047⟩,
⟨gdR s136 false (r_load 1 false s144 0 145),w145,264191⟩,
⟨gdR s136 false (r_bin .neq s143 s145 0 146),w146,1048575⟩,
⟨(r_pick s136 cT s146 0 147),w147,2097151⟩,
⟨(r_mov s147 0 148),w148,4194303⟩,
⟨gdR s148 false (r_fieldAddr 1 s7 0 149),w149,8388607⟩,
⟨gdR s148 false (r_load 1 false s149 0 150),w150,16777215⟩,
⟨gdR s148 false (r_len s150 0 151),w151,33554431⟩,
⟨gdR s148 false (r_fieldAddr 3 s1 0 152),w152,8388607⟩,
⟨gdR s148 false (r_fieldAddr 1 s152 0 153),w153,75497471⟩,
⟨gdR s148 false (r_load 1 false s153 0 154),w154,209715199⟩,
⟨gdR s148 false (r_bin .gtr s151 s154 0 155),w155,536870911⟩,
⟨(r_pick s148 cT s155 0 156),w156,1073741823⟩] 31)
(.cond s156 (.seq (.region [qMov (cn 8) w2] 1)
.ret)
.skip))
(.seq (.seq (.region [qFad 0 s8 w157,
qLd s157 w158,
qBin bEql .eql s158 (cb 3) w159] 3)
(.cond s159 (.exit 1)
.skip))
(.seq (.region [seqO (r_load 2 true s7 0 161) w161,
qFad 0 s1 w162,
seqO (r_load 3 true s162 0 163) w163,
qFad 1 s8 w164,
qLd s164 w165,
seqO (r_call 42 [s161,s163,s165] 0 166) w166,
qMov s166 w160,
seqO (r_extract s160 0 0 167) w167,
seqO (r_extract s160 1 0 168) w168,
qMov s167 w9,
qMov s168 w10] 11)
(.seq (.region [qMov s10 w169,
qBin bNeq .neq s169 (cn 0) w170] 2)
(.cond s170 (.seq (.region [qMov (cn 8) w2] 1)
.ret)
.skip)))))))
(.region [qMov s6 w114,
qBin bAdd .add s114 (cn 1) w115,
qMov s115 w6] 3))))))
(.seq (.region [qMov (cn 0) w2] 1)
.ret))))))),false⟩
def q13:QFn:=⟨0,[.t s0],
(.seq (.region [qMov cF w0] 1)
(.seq (.region [seqO (r_buildSlice 1 2 [di] [(0,(cn 7)),(1,(cn 8))] 0 11) w11,
seqO (r_buildSlice 1 1 [(.sc (.bool false))] [(0,cT)] 0 12) w12,
seqO (r_call 43 [s11,s12] 0 13) w13,
seqO (r_callF 6 [] 0 14) w14,
seqO (r_call 4 [s13,s14] 0 15) w15,
qMov s15 w10,
seqO (r_extract s10 0 0 16) w16,
seqO (r_extract s10 1 0 17) w17,
seqO (r_alloc [oF,oF,oF,i0,i0,i0,i0,u0,oF,oF,oF,i0] 0 1) w1,
seqO (r_store 12 s1 s16 0 0) wN,
qMov s17 w2] 11)
(.seq (.region [seqO (r_load 12 true s1 0 19) w19,
seqO (r_call 11 [s19,(cn 2)] 0 20) w20,
qMov s20 w18,
seqO (r_extract s18 0 0 21) w21,
seqO (r_extract s18 1 0 22) w22,
seqO (r_extract s18 2 0 23) w23,
seqO (r_alloc [oF,oF,oF,i0,i0,i0,i0,u0,oF,oF,oF,i0] 0 3) w3,
seqO (r_store 12 s3 s21 0 0) wN,
qMov s22 w4,
qMov s23 w5] 10)
(.seq (.region [seqO (r_load 12 true s3 0 25) w25,
seqO (r_callF 9 [s25,(cn 0)] 0 26) w26,
qMov s26 w24,
seqO (r_extract s24 0 0 27) w27,
seqO (r_extract s24 1 0 28) w28,
seqO (r_alloc [u0,i0,i0,u0,u0] 0 6) w6,
seqO (r_store 5 s6 s27 0 0) wN,
qMov s28 w7] 8)
(.seq (.seq (.region [qMov s2 w29,
seqO (r_un .not s29 0 30) w30,
qMov s30 w31,
gdO s31 false w32 (qMov s5 w32),
gdO s31 false w33 (seqO (r_un .not s32 0 33) w33),
qPick s31 cT s33 w34,
qMov s34 w35,
gdO s35 false w36 (qMov s4 w36),
gdO s35 false w37 (qBin bNeq .neq s36 (cb 0) w37),
qPick s35 cT s37 w38,
qMov s38 w39,
gdO s39 false w40 (qMov s7 w40),
gdO s39 false w41 (qBin bNeq .neq s40 (cn 0) w41),
qPick s39 cT s41 w42,
qMov s42 w43,
gdO s43 false w44 (qFad 1 s6 w44),
gdO s43 false w45 (qLd s44 w45),
gdO s43 false w46 (qBin bNeq .neq s45 (cn 0) w46),
qPick s43 cT s46 w47] 19)
(.cond s47 (.seq (.region [qMov cF w0] 1)
.ret)
.skip))
(.seq (.region [seqO (r_load 12 true s3 0 49) w49,
seqO (r_call 11 [s49,(cn 1)] 0 50) w50,
qMov s50 w48,
seqO (r_extract s48 0 0 51) w51,
seqO (r_extract s48 1 0 52) w52,
seqO (r_extract s48 2 0 53) w53,
seqO (r_store 12 s3 s51 0 0) wN,
qMov s52 w4,
qMov s53 w5] 9)
(.seq (.region [seqO (r_load 12 true s3 0 55) w55,
seqO (r_callF 9 [s55,(cn 0)] 0 56) w56,
qMov s56 w54,
seqO (r_extract s54 0 0 57) w57,
seqO (r_extract s54 1 0 58) w58,
seqO (r_store 5 s6 s57 0 0) wN,
qMov s58 w7] 7)
(.seq (.region [seqO (r_load 12 true s3 0 60) w60,
seqO (r_callF 10 [s60,(cn 0)] 0 61) w61,
qMov s61 w59,
seqO (r_extract s59 0 0 62) w62,
seqO (r_extract s59 1 0 63) w63,
qMov s62 w8,
qMov s63 w9] 7)
(.seq (.seq (.region [qMov s5 w64,
seqO (r_un .not s64 0 65) w65,
qMov s65 w66,
gdO s66 false w67 (qMov s4 w67),
gdO s66 false w68 (qBin bNeq .neq s67 (cb 0) w68),
qPick s66 cT s68 w69,
qMov s69 w70,
gdO s70 false w71 (qMov s7 w71),
gdO s70 false w72 (qBin bNeq .neq s71 (cn 0) w72),
qPick s70 cT s72 w73,
qMov s73 w74,
gdO s74 false w75 (qMov s9 w75),
gdO s74 false w76 (qBin bNeq .neq s75 (cn 0) w76),
qPick s74 cT s76 w77,
qMov s77 w78,
gdO s78 false w79 (qFad 1 s6 w79),
gdO s78 false w80 (qLd s79 w80),
gdO s78 false w81 (qBin bNeq .neq s80 (cn 1) w81),
qPick s78 cT s81 w82,
qMov s82 w83,
gdO s83 false w84 (qFad 3 s6 w84),
gdO s83 false w85 (qLd s84 w85),
gdO s83 false w86 (qBin bNeq .neq s85 (cu 2) w86),
qPick s83 cT s86 w87,
qMov s87 w88,
gdO s88 false w89 (qMov s8 w89),
gdO s88 false w90 (qBin bNeq .neq s89 (cn 0) w90),
qPick s88 cT s90 w91] 28)
(.cond s91 (.seq (.region [qMov cF w0] 1)
.ret)
.skip))
(.seq (.region [seqO (r_load 12 true s3 0 93) w93,
seqO (r_call 11 [s93,(cn 9)] 0 94) w94,
qMov s94 w92,
seqO (r_extract s92 0 0 95) w95,
seqO (r_extract s92 1 0 96) w96,
seqO (r_extract s92 2 0 97) w97,
qMov s96 w4,
qMov s97 w5] 8)
(.seq (.region [qMov s5 w98,
qMov s98 w99,
gdO s99 true w100 (qMov s4 w100),
gdO s99 true w101 (qBin bEql .eql s100 (cb 2) w101),
qPick s99 s101 cF w102,
qMov s102 w0] 6)
.ret))))))))))),false⟩
def q14:QFn:=⟨2,[.t s4],
(.seq (.region [seqO (r_box s0 0 2) w2,
seqO (r_box s1 0 3) w3,
qMov cF w4] 3)
(.seq (.seq (.region [qFad 0 s2 w6,
seqO (r_load 3 true s6 0 7) w7,
qFad 0 s3 w8,
seqO (r_load 3 true s8 0 9) w9,
seqO (r_callF 44 [s7,s9] 0 10) w10,
seqO (r_un .not s10 0 11) w11,
qMov s11 w12,
gdO s12 false w13 (qFad 3 s2 w13),
gdO s12 false w14 (seqO (r_load 4 true s13 0 14) w14),
gdO s12 false w15 (qFad 3 s3 w15),
gdO s12 false w16 (seqO (r_load 4 true s15 0 16) w16),
gdO s12 false w17 (seqO (r_eqA true 4 [(0,1),(1,1),(2,1),(3,1)] s14 s16 0 17) w17),
qPick s12 cT s17 w18,
qMov s18 w19,
gdO s19 false w20 (qFad 7 s2 w20),
gdO s19 false w21 (seqO (r_load 2 true s20 0 21) w21),
gdO s19 false w22 (qFad 7 s3 w22),
gdO s19 false w23 (seqO (r_load 2 true s22 0 23) w23),
gdO s19 false w24 (seqO (r_callF 45 [s21,s23] 0 24) w24),
gdO s19 false w25 (seqO (r_un .not s24 0 25) w25),
qPick s19 cT s25 w26,
qMov s26 w27,
gdO s27 false w28 (qFad 9 s2 w28),
gdO s27 false w29 (qLd s28 w29),
gdO s27 false w30 (seqO (r_len s29 0 30) w30),
gdO s27 false w31 (qFad 9 s3 w31),
gdO s27 false w32 (qLd s31 w32),
gdO s27 false w33 (seqO (r_len s32 0 33) w33),
gdO s27 false w34 (qBin bNeq .neq s30 s33 w34),
qPick s27 cT s34 w35,
qMov s35 w36,
gdO s36 false w37 (qFad 10 s2 w37),
gdO s36 false w38 (qLd s37 w38),
gdO s36 false w39 (qFad 10 s3 w39),
gdO s36 false w40 (qLd s39 w40),
gdO s36 false w41 (seqO (r_callF 46 [s38,s40] 0 41) w41),
gdO s36 false w42 (seqO (r_un .not s41 0 42) w42),
qPick s36 cT s42 w43,
qMov s43 w44,
gdO s44 false w45 (qFad 11 s2 w45),
gdO s44 false w46 (qLd s45 w46),
gdO s44 false w47 (qFad 11 s3 w47),
gdO s44 false w48 (qLd s47 w48),
gdO s44 false w49 (qBin bNeq .neq s46 s48 w49),
qPick s44 cT s49 w50] 45)
(.cond s50 (.seq (.region [qMov cF w4] 1)
.ret)
.skip))
(.seq (.seq (.region [qMov (cn 0) w5] 1)
(.block 0 (.loop (.seq (.seq (.region [qMov s5 w51,
qFad 9 s2 w52,
qLd s52 w53,
seqO (r_len s53 0 54) w54,
qBin bLss .lss s51 s54 w55] 5)
(.cond s55 .skip
(.exit 0)))
(.seq (.block 1 (.seq (.draw [⟨(r_fieldAddr 9 s2 0 58),w58,0⟩,
⟨(r_load 1 false s58 0 59),w59,1⟩,
⟨(r_mov s5 0 60),w60,0⟩,
⟨(r_indexAddr 2 s59 s60 0 61),w61,7⟩,
⟨(r_load 2 true s61 0 62),w62,15⟩,
⟨(r_fieldAddr 9 s3 0 63),w63,0⟩,
⟨(r_load 1 false s63 0 64),w64,32⟩,
⟨(r_mov s5 0 65),w65,0⟩,
⟨(r_indexAddr 2 s64 s65 0 66),w66,224⟩,
⟨(r_load 2 true s66 0 67),w67,480⟩,
⟨(r_callF 45 [s62,s67] 0 68),w68,1023⟩,
⟨(r_un .not s68 0 69),w69,2047⟩] 12)
(.cond s69 (.seq (.region [qMov cF w4] 1)
.ret)
.skip)))
(.region [qMov s5 w56,
qBin bAdd .add s56 (cn 1) w57,
qMov s57 w5] 3))))))
(.seq (.region [qMov cT w4] 1)
.ret)))),false⟩
def q15:QFn:=⟨1,[.t s2],
(.seq (.region [seqO (r_box s0 0 1) w1,
qMov cF w2] 2)
(.seq (.region [seqO (r_load 12 true s1 0 23) w23,
seqO (r_call 7 [s23] 0 24) w24,
seqO (r_alloc [oF,oF,oF,i0,i0,i0,i0,u0,oF,oF,oF,i0] 0 3) w3,
seqO (r_store 12 s3 s24 0 0) wN] 4)
(.seq (.region [qFad 10 s3 w25,
qLd s25 w26,
seqO (r_indexAddr 6 s26 (cn 0) 0 27) w27,
qFad 3 s27 w28,
seqO (r_store 1 s28 (cu 65536) 0 0) wN] 5)
(.seq (.region [seqO (r_load 12 true s3 0 30) w30,
seqO (r_callF 10 [s30,(cn 0)] 0 31) w31,
qMov s31 w29,
seqO (r_extract s29 0 0 32) w32,
seqO (r_extract s29 1 0 33) w33,
qMov s32 w4,
qMov s33 w5] 7)
(.seq (.region [seqO (r_build [b0,i0,i0,oF] [(0,1,(cb 2))] 0 34) w34,
seqO (r_buildSlice 4 1 [db,di,di,(.sl [])] [(0,s34)] 0 35) w35,
seqO (r_build [b0,i0,i0,i0] [(0,1,(cb 34)),(1,1,(cm 0))] 0 36) w36,
seqO (r_buildSlice 4 1 [db,di,di,di] [(0,s36)] 0 37) w37,
seqO (r_build [i0,u0] [] 0 38) w38,
seqO (r_buildSlice 2 1 [di,du] [(0,s38)] 0 39) w39,
seqO (r_build [i0,u0] [] 0 40) w40,
seqO (r_buildSlice 2 1 [di,du] [(0,s40)] 0 41) w41,
seqO (r_build [(.d (.sc (.string ⟨#[]⟩))),i0,i0,oF,oF,oF,oF] [(0,1,(cK (.d (.sc (.string ⟨#[109,97,105,110]⟩))))),(2,1,(cm 0)),(4,1,s37),(5,1,s39),(6,1,s41)] 0 42) w42,
seqO (r_buildSlice 7 1 [(.sc (.string ⟨#[]⟩)),di,di,(.sl []),(.sl []),(.sl []),(.sl [])] [(0,s42)] 0 43) w43,
seqO (r_build [oF,oF,oF] [(0,1,s35),(2,1,s43)] 0 44) w44,
seqO (r_alloc [oF,oF,oF] 0 6) w6,
seqO (r_store 3 s6 s44 0 0) wN] 13)
(.seq (.draw [⟨(r_load 3 true s6 0 46),w46,0⟩,
⟨(r_callF 6 [] 0 47),w47,0⟩,
⟨(r_call 4 [s46,s47] 0 48),w48,3⟩,
⟨(r_mov s48 0 45),w45,7⟩,
⟨(r_extract s45 0 0 49),w49,15⟩,
⟨(r_extract s45 1 0 50),w50,15⟩,
⟨(r_alloc [oF,oF,oF,i0,i0,i0,i0,u0,oF,oF,oF,i0] 0 7),w7,0⟩,
⟨(r_store 12 s7 s49 0 0),wN,95⟩,
⟨(r_mov s50 0 8),w8,255⟩] 9)
(.seq (.seq (.region [qMov s8 w51,
seqO (r_un .not s51 0 52) w52] 2)
(.cond s52 (.seq (.region [qMov cF w2] 1)
.ret)
.skip))
(.seq (.region [seqO (r_load 12 true s7 0 54) w54,
seqO (r_call 8 [s54,(cn 0)] 0 55) w55,
qMov s55 w53,
seqO (r_extract s53 0 0 56) w56,
seqO (r_extract s53 1 0 57) w57,
seqO (r_extract s53 2 0 58) w58,
seqO (r_alloc [oF,oF,oF,i0,i0,i0,i0,u0,oF,oF,oF,i0] 0 9) w9,
seqO (r_store 12 s9 s56 0 0) wN,
qMov s57 w10,
qMov s58 w11] 10)
(.seq (.region [seqO (r_load 12 true s9 0 60) w60,
seqO (r_call 8 [s60,(cn 0)] 0 61) w61,
qMov s61 w59,
seqO (r_extract s59 0 0 62) w62,
seqO (r_extract s59 1 0 63) w63,
seqO (r_extract s59 2 0 64) w64,
seqO (r_alloc [oF,oF,oF,i0,i0,i0,i0,u0,oF,oF,oF,i0] 0 12) w12,
seqO (r_store 12 s12 s62 0 0) wN,
qMov s63 w13,
qMov s64 w14] 10)
(.seq (.region [seqO (r_load 12 true s7 0 65) w65,
seqO (r_call 7 [s65] 0 66) w66,
seqO (r_alloc [oF,oF,oF,i0,i0,i0,i0,u0,oF,oF,oF,i0] 0 15) w15,
seqO (r_store 12 s15 s66 0 0) wN] 4)
(.seq (.region [qFad 10 s15 w67,
qLd s67 w68,
seqO (r_indexAddr 6 s68 (cn 0) 0 69) w69,
qFad 3 s69 w70,
seqO (r_store 1 s70 (cu 65536) 0 0) wN] 5)
(.seq (.region [seqO (r_load 12 true s15 0 72) w72,
seqO (r_call 8 [s72,(cn 0)] 8 73) w73,
qMov s73 w71,
seqO (r_extract s71 0 0 74) w74,
seqO (r_extract s71 1 0 75) w75,
seqO (r_extract s71 2 0 76) w76,
seqO (r_alloc [oF,oF,oF,i0,i0,i0,i0,u0,oF,oF,oF,i0] 0 16) w16,
seqO (r_store 12 s16 s74 0 0) wN,
qMov s75 w17,
qMov s76 w18] 10)
(.seq (.region [seqO (r_load 12 true s7 0 77) w77,
seqO (r_call 7 [s77] 0 78) w78,
seqO (r_alloc [oF,oF,oF,i0,i0,i0,i0,u0,oF,oF,oF,i0] 0 19) w19,
seqO (r_store 12 s19 s78 0 0) wN] 4)
(.seq (.draw [⟨(r_fieldAddr 9 s19 0 79),w79,0⟩,
⟨(r_load 1 false s79 0 80),w80,1⟩,
⟨(r_indexAddr 2 s80 (cn 0) 0 81),w81,3⟩,
⟨(r_load 2 true s81 0 82),w82,7⟩,
⟨(r_fieldAddr 9 s19 0 83),w83,0⟩,
⟨(r_load 1 false s83 0 84),w84,16⟩,
⟨(r_indexAddr 2 s84 (cn 0) 0 85),w85,48⟩,
⟨(r_fieldAddr 0 s85 0 86),w86,112⟩,
⟨(r_load 1 false s86 0 87),w87,240⟩,
⟨(r_bin .add s87 (cu 8) 0 88),w88,496⟩,
⟨(r_callF 47 [s82,s88,(cn 8),(cu 1)] 0 89),w89,1023⟩] 11)
(.seq (.region [seqO (r_load 12 true s19 0 91) w91,
seqO (r_call 8 [s91,(cn 0)] 8 92) w92,
qMov s92 w90,
seqO (r_extract s90 0 0 93) w93,
seqO (r_extract s90 1 0 94) w94,
seqO (r_extract s90 2 0 95) w95,
seqO (r_alloc [oF,oF,oF,i0,i0,i0,i0,u0,oF,oF,oF,i0] 0 20) w20,
seqO (r_store 12 s20 s93 0 0) wN,
qMov s94 w21,
qMov s95 w22] 10)
(.seq (.region [qMov s5 w96,
qBin bEql .eql s96 (cn 36) w97,
qMov s97 w98,
gdO s98 true w99 (qMov s10 w99),
gdO s98 true w100 (qBin bEql .eql s99 (cb 1) w100),
qPick s98 s100 cF w101,
qMov s101 w102,
gdO s102 true w103 (qMov s11 w103),
gdO s102 true w104 (qBin bEql .eql s103 (cn 0) w104),
qPick s102 s104 cF w105,
qMov s105 w106,
gdO s106 true w107 (qFad 10 s9 w107),
gdO s106 true w108 (qLd s107 w108),
gdO s106 true w109 (seqO (r_len s108 0 109) w109),
gdO s106 true w110 (qBin bEql .eql s109 (cn 1) w110),
qPick s106 s110 cF w111,
qMov s111 w112,
gdO s112 true w113 (qFad 10 s9 w113),
gdO s112 true w114 (qLd s113 w114),
gdO s112 true w115 (seqO (r_indexAddr 6 s114 (cn 0) 0 115) w115),
gdO s112 true w116 (qFad 0 s115 w116),
gdO s112 true w117 (qLd s116 w117),
gdO s112 true w118 (qBin bEql .eql s117 (cb 3) w118),
qPick s112 s118 cF w119,
qMov s119 w120,
gdO s120 true w121 (qMov s14 w121),
gdO s120 true w122 (qBin bEql .eql s121 (cn 2) w122),
qPick s120 s122 cF w123,
qMov s123 w124,
gdO s124 true w125 (qMov s18 w125),
gdO s124 true w126 (qBin bEql .eql s125 (cn 36) w126),
qPick s124 s126 cF w127,
qMov s127 w128,
gdO s128 true w129 (qMov s22 w129),
gdO s128 true w130 (qBin bEql .eql s129 (cn 36) w130),
qPick s128 s130 cF w131,
qMov s131 w2] 37)
.ret)))))))))))))))),false⟩
def q16:QFn:=⟨2,[.cell s4 2 true,.t s5,.t s6],
(.seq (.region [seqO (r_alloc [u0,oF] 0 4) w4,
qMov (cK oF) w5,
qMov (cn 0) w6] 3)
(.seq (.seq (.region [qMov s1 w14,
qBin bLss .lss s14 (cn 0) w15,
qMov s15 w16,
gdO s16 false w17 (qMov s1 w17),
gdO s16 false w18 (qBin bGtr .gtr s17 (cn 16384) w18),
qPick s16 cT s18 w19] 6)
(.cond s19 (.seq (.region [seqO (r_build [u0,oF] [] 0 20) w20,
seqO (r_store 2 s4 s20 0 0) wN,
qMov (cK oF) w5,
qMov (cn 2) w6] 4)
.ret)
.skip))
(.seq (.seq (.region [qMov s0 w21,
seqO (r_len s21 0 22) w22,
qBin bGtr .gtr s22 (cn 32) w23] 3)
(.cond s23 (.seq (.region [seqO (r_build [u0,oF] [] 0 24) w24,
seqO (r_store 2 s4 s24 0 0) wN,
qMov (cK oF) w5,
qMov (cn 4) w6] 4)
.ret)
.skip))
(.seq (.seq (.region [qMov (cn 0) w7] 1)
(.block 0 (.loop (.seq (.seq (.region [qMov s7 w25,
qMov s0 w26,
seqO (r_len s26 0 27) w27,
qBin bLss .lss s25 s27 w28] 4)
(.cond s28 .skip
(.exit 0)))
(.seq (.block 1 (.seq (.region [qMov s0 w31,
qMov s7 w32,
seqO (r_indexAddr 1 s31 s32 0 33) w33,
qLd s33 w34,
seqO (r_lenS s34 0 35) w35,
qBin bGtr .gtr s35 (cn 64) w36] 6)
(.cond s36 (.seq (.region [seqO (r_build [u0,oF] [] 0 37) w37,
seqO (r_store 2 s4 s37 0 0) wN,
qMov (cK oF) w5,
qMov (cn 2) w6] 4)
.ret)
.skip)))
(.region [qMov s7 w29,
qBin bAdd .add s29 (cn 1) w30,
qMov s30 w7] 3))))))
(.seq (.region [seqO (r_call 48 [] 0 38) w38,
seqO (r_alloc [u0,oF] 0 8) w8,
seqO (r_store 2 s8 s38 0 0) wN] 3)
(.seq (.region [qMov (cK oF) w9] 1)
(.seq (.seq (.region [qMov (cn 0) w10] 1)
(.block 2 (.loop (.seq (.seq (.region [qMov s10 w39,
qMov s0 w40,
seqO (r_len s40 0 41) w41,
qBin bLss .lss s39 s41 w42] 4)
(.cond s42 .skip
(.exit 2)))
(.seq (.block 3 (.seq (.draw [⟨(r_load 2 true s8 0 46),w46,0⟩,
⟨(r_mov s0 0 47),w47,0⟩,
⟨(r_mov s10 0 48),w48,0⟩,
⟨(r_indexAddr 1 s47 s48 0 49),w49,6⟩,
⟨(r_load 1 false s49 0 50),w50,14⟩,
⟨(r_s2b s50 0 51),w51,30⟩,
⟨(r_mov s1 0 52),w52,0⟩,
⟨(r_call 49 [s46,s51,s52] 0 53),w53,127⟩,
⟨(r_mov s53 0 45),w45,255⟩,
⟨(r_extract s45 0 0 54),w54,511⟩,
⟨(r_extract s45 1 0 55),w55,511⟩,
⟨(r_extract s45 2 0 56),w56,511⟩,
⟨(r_alloc [u0,oF] 0 11),w11,0⟩,
⟨(r_store 2 s11 s54 0 0),wN,5119⟩,
⟨(r_mov s55 0 12),w12,14335⟩,
⟨(r_mov s56 0 13),w13,32767⟩] 16)
(.seq (.seq (.region [qMov s13 w57,
qBin bNeq .neq s57 (cn 0) w58] 2)
(.cond s58 (.seq (.region [seqO (r_build [u0,oF] [] 0 59) w59,
qMov s13 w60,
seqO (r_store 2 s4 s59 0 0) wN,
qMov (cK oF) w5,
qMov s60 w6] 5)
.ret)
.skip))
(.draw [⟨(r_load 2 true s11 0 61),w61,0⟩,
⟨(r_mov s9 0 62),w62,0⟩,
⟨(r_mov s12 0 63),w63,0⟩,
⟨(r_buildSlice 1 1 [du] [(0,s63)] 0 64),w64,4⟩,
⟨(r_append 1 8 s62 s64 0 65),w65,14⟩,
⟨(r_store 2 s8 s61 0 0),wN,31⟩,
⟨(r_mov s65 0 9),w9,63⟩] 7))))
(.region [qMov s10 w43,
qBin bAdd .add s43 (cn 1) w44,
qMov s44 w10] 3))))))
(.seq (.region [seqO (r_load 2 true s8 0 66) w66,
qMov s9 w67,
seqO (r_store 2 s4 s66 0 0) wN,
qMov s67 w5,
qMov (cn 0) w6] 5)
.ret)))))))),false⟩
def q17:QFn:=⟨6,[.t s12],
(.seq (.region [seqO (r_box s0 0 6) w6,
qMov (cK oF) w12] 2)
(.seq (.region [seqO (r_load 3 true s6 0 21) w21,
qMov s1 w22,
seqO (r_call 50 [s21,s22] 0 23) w23,
qMov s23 w20,
seqO (r_extract s20 0 0 24) w24,
seqO (r_extract s20 1 0 25) w25,
qMov s24 w13,
qMov s25 w14] 8)
(.seq (.region [qMov s14 w26,
seqO (r_makeSlice 1 1 [db] s26 s26 1 27) w27,
seqO (r_build [u0,oF] [(0,1,(cu 8)),(1,1,s27)] 0 28) w28,
seqO (r_alloc [u0,oF] 0 15) w15,
seqO (r_store 2 s15 s28 0 0) wN] 5)
(.seq (.region [seqO (r_load 2 true s15 0 29) w29,
qMov s2 w30,
seqO (r_callF 47 [s29,(cu 8),(cn 8),s30] 0 31) w31] 3)
(.seq (.region [seqO (r_load 2 true s15 0 32) w32,
qMov s3 w33,
seqO (r_callF 47 [s32,(cu 16),(cn 8),s33] 0 34) w34] 3)
(.seq (.region [seqO (r_load 2 true s15 0 35) w35,
qMov s4 w36,
seqO (r_callF 47 [s35,(cu 24),(cn 8),s36] 0 37) w37] 3)
(.seq (.region [qMov (cn 0) w16] 1)
(.seq (.seq (.region [qMov (cn 0) w17] 1)
(.block 0 (.loop (.seq (.seq (.region [qMov s17 w38,
qFad 2 s6 w39,
qLd s39 w40,
qMov s1 w41,
seqO (r_indexAddr 7 s40 s41 0 42) w42,
qFad 1 s42 w43,
qLd s43 w44,
qBin bLss .lss s38 s44 w45] 8)
(.cond s45 .skip
(.exit 0)))
(.seq (.block 1 (.seq (.draw [⟨(r_fieldAddr 0 s6 0 48),w48,0⟩,
⟨(r_load 1 false s48 0 49),w49,1⟩,
⟨(r_fieldAddr 2 s6 0 50),w50,0⟩,
⟨(r_load 1 false s50 0 51),w51,4⟩,
⟨(r_mov s1 0 52),w52,0⟩,
⟨(r_indexAddr 7 s51 s52 0 53),w53,28⟩,
⟨(r_fieldAddr 3 s53 0 54),w54,60⟩,
⟨(r_load 1 false s54 0 55),w55,124⟩,
⟨(r_mov s17 0 56),w56,0⟩,
⟨(r_indexAddr 2 s55 s56 0 57),w57,508⟩,
⟨(r_fieldAddr 1 s57 0 58),w58,1020⟩,
⟨(r_load 1 false s58 0 59),w59,2044⟩,
⟨(r_callF 51 [s49,s59] 0 60),w60,4095⟩,
⟨(r_mov s60 0 18),w18,8191⟩] 14)
(.seq (.seq (.region [qMov (cn 0) w19] 1)
(.block 2 (.loop (.seq (.seq (.region [qMov s19 w61,
qMov s18 w62,
qBin bLss .lss s61 s62 w63] 3)
(.cond s63 .skip
(.exit 2)))
(.seq (.block 3 (.draw [⟨(r_fieldAddr 1 s15 0 66),w66,0⟩,
⟨(r_load 1 false s66 0 67),w67,1⟩,
⟨(r_mov s13 0 68),w68,0⟩,
⟨(r_mov s17 0 69),w69,0⟩,
⟨(r_indexAddr 1 s68 s69 0 70),w70,12⟩,
⟨(r_load 1 false s70 0 71),w71,28⟩,
⟨(r_mov s19 0 72),w72,0⟩,
⟨(r_bin .add s71 s72 0 73),w73,124⟩,
⟨(r_mov s5 0 74),w74,0⟩,
⟨(r_mov s16 0 75),w75,0⟩,
⟨(r_mov s19 0 76),w76,0⟩,
⟨(r_bin .add s75 s76 0 77),w77,1536⟩,
⟨(r_indexAddr 1 s74 s77 0 78),w78,3840⟩,
⟨(r_load 1 false s78 0 79),w79,7936⟩,
⟨(r_indexAddr 1 s67 s73 0 80),w80,16383⟩,
⟨(r_store 1 s80 s79 0 0),wN,32767⟩] 16))
(.region [qMov s19 w64,
qBin bAdd .add s64 (cn 1) w65,
qMov s65 w19] 3))))))
(.region [qMov s16 w81,
qMov s18 w82,
seqO (r_callF 52 [s82] 0 83) w83,
qBin bAdd .add s81 s83 w84,
qMov s84 w16] 5))))
(.region [qMov s17 w46,
qBin bAdd .add s46 (cn 1) w47,
qMov s47 w17] 3))))))
(.seq (.region [qFad 1 s15 w85,
qLd s85 w86,
qMov s86 w12] 3)
.ret))))))))),false⟩
def q18:QFn:=⟨1,[.t s2],
(.seq (.region [qMov (cu 0) w2] 1)
(.seq (.region [qMov s0 w3,
qBin bAdd .add s3 (cn 1) w4,
qBin (bGen .mul) .mul (cn 16777216) s4 w5,
seqO (r_conv .u64 s5 0 6) w6,
qMov s6 w2] 5)
.ret)),false⟩
def q19:QFn:=⟨1,[.cell s2 3 true],
(.seq (.region [seqO (r_box s0 0 1) w1,
seqO (r_alloc [oF,oF,oF] 0 2) w2] 2)
(.seq (.draw [⟨(r_fieldAddr 0 s1 0 6),w6,0⟩,
⟨(r_load 1 false s6 0 7),w7,1⟩,
⟨(r_call 53 [s7] 0 8),w8,3⟩,
⟨(r_buildSlice 1 0 [(.sc (.string ⟨#[]⟩))] [] 0 9),w9,0⟩,
⟨(r_fieldAddr 1 s1 0 10),w10,0⟩,
⟨(r_load 1 false s10 0 11),w11,16⟩,
⟨(r_append 1 16 s9 s11 0 12),w12,63⟩,
⟨(r_build [oF,oF,oF] [(0,1,s8),(1,1,s12)] 0 13),w13,127⟩,
⟨(r_alloc [oF,oF,oF] 0 3),w3,0⟩,
⟨(r_store 3 s3 s13 0 0),wN,511⟩] 10)
(.seq (.seq (.region [qMov (cn 0) w4] 1)
(.block 0 (.loop (.seq (.seq (.region [qMov s4 w14,
qFad 2 s1 w15,
qLd s15 w16,
seqO (r_len s16 0 17) w17,
qBin bLss .lss s14 s17 w18] 5)
(.cond s18 .skip
(.exit 0)))
(.seq (.block 1 (.seq (.region [qFad 2 s1 w21,
qLd s21 w22,
qMov s4 w23,
seqO (r_indexAddr 7 s22 s23 0 24) w24,
seqO (r_load 7 true s24 0 25) w25,
seqO (r_alloc [(.d (.sc (.string ⟨#[]⟩))),i0,i0,oF,oF,oF,oF] 0 5) w5,
seqO (r_store 7 s5 s25 0 0) wN] 7)
(.seq (.region [seqO (r_buildSlice 2 0 [(.sc (.string ⟨#[]⟩)),di] [] 0 26) w26,
qFad 3 s5 w27,
qLd s27 w28,
seqO (r_append 2 24 s26 s28 0 29) w29,
qFad 3 s5 w30,
seqO (r_store 1 s30 s29 0 0) wN] 6)
(.seq (.region [seqO (r_buildSlice 4 0 [db,di,di,di] [] 0 31) w31,
qFad 4 s5 w32,
qLd s32 w33,
seqO (r_append 4 32 s31 s33 0 34) w34,
qFad 4 s5 w35,
seqO (r_store 1 s35 s34 0 0) wN] 6)
(.seq (.region [seqO (r_buildSlice 2 0 [di,du] [] 0 36) w36,
qFad 5 s5 w37,
qLd s37 w38,
seqO (r_append 2 16 s36 s38 0 39) w39,
qFad 5 s5 w40,
seqO (r_store 1 s40 s39 0 0) wN] 6)
(.seq (.region [seqO (r_buildSlice 2 0 [di,du] [] 0 41) w41,
qFad 6 s5 w42,
qLd s42 w43,
seqO (r_append 2 16 s41 s43 0 44) w44,
qFad 6 s5 w45,
seqO (r_store 1 s45 s44 0 0) wN] 6)
(.region [qFad 2 s3 w46,
qLd s46 w47,
seqO (r_load 7 true s5 0 48) w48,
seqO (r_buildSlice 7 1 [(.sc (.string ⟨#[]⟩)),di,di,(.sl []),(.sl []),(.sl []),(.sl [])] [(0,s48)] 0 49) w49,
seqO (r_append 7 128 s47 s49 1 50) w50,
qFad 2 s3 w51,
seqO (r_store 1 s51 s50 0 0) wN] 7)))))))
(.region [qMov s4 w19,
qBin bAdd .add s19 (cn 1) w20,
qMov s20 w4] 3))))))
(.seq (.region [seqO (r_load 3 true s3 0 52) w52,
seqO (r_store 3 s2 s52 0 0) wN] 2)
.ret)))),false⟩
def q20:QFn:=⟨2,[.t s4],
(.seq (.region [qMov (cu 0) w4] 1)
(.seq (.region [qMov s0 w5,
qBin bAdd .add s5 (cn 1) w6,
qBin (bGen .mul) .mul (cn 256) s6 w7,
qMov s1 w8,
qBin bAdd .add s7 s8 w9,
seqO (r_conv .u64 s9 0 10) w10,
qMov s10 w4] 7)
.ret)),false⟩
def q21:QFn:=⟨4,[.cell s8 4 true],
(.seq (.region [seqO (r_alloc [b0,i0,i0,i0] 0 8) w8] 1)
(.seq (.region [qMov s0 w9,
qMov s1 w10,
qMov s2 w11,
qMov s3 w12,
seqO (r_build [b0,i0,i0,i0] [(0,1,s9),(1,1,s10),(2,1,s11),(3,1,s12)] 0 13) w13,
seqO (r_store 4 s8 s13 0 0) wN] 6)
.ret)),false⟩
def q22:QFn:=⟨2,[.t s4],
(.seq (.region [qMov (cK oF) w4] 1)
(.seq (.region [qMov s0 w10,
seqO (r_maxi s10 (cn 0) 0 11) w11,
qMov s11 w0] 3)
(.seq (.region [qMov s0 w12,
qBin (bGen .quo) .quo s12 (cn 32) w13,
qBin (bGen .rem) .rem s13 (cn 32) w14,
qMov s14 w5] 4)
(.seq (.region [qMov s1 w15,
qBin bAdd .add s15 (cn 2) w16,
seqO (r_callF 21 [(cb 23),(cn 1),s16,(cn 0)] 0 17) w17,
seqO (r_alloc [b0,i0,i0,i0] 0 6) w6,
seqO (r_store 4 s6 s17 0 0) wN] 5)
(.seq (.seq (.region [qMov s0 w18,
qBin (bGen .rem) .rem s18 (cn 32) w19] 2)
(.block 0 (.seq (.region [qBin bEql .eql s19 (cn 24) w21,
qMov s21 w20] 2)
(.cond s20 (.seq (.region [seqO (r_callF 21 [(cb 24),(cn 0),(cn 0),(cn 0)] 0 22) w22,
seqO (r_callF 21 [(cb 25),(cn 0),(cn 1),(cn 0)] 0 23) w23,
seqO (r_buildSlice 4 2 [db,di,di,di] [(0,s22),(1,s23)] 0 24) w24,
qMov s24 w4] 4)
.ret)
(.seq (.region [qBin bEql .eql s19 (cn 25) w26,
qMov s26 w25] 2)
(.cond s25 (.seq (.region [seqO (r_buildSlice 1 3 [di] [(0,(cn 2)),(1,(cn 4)),(2,(cn 7))] 0 27) w27,
qMov s27 w7] 2)
(.seq (.draw [⟨(r_callF 21 [(cb 24),(cn 0),(cn 0),(cn 0)] 0 28),w28,0⟩,
⟨(r_mov s7 0 29),w29,0⟩,
⟨(r_mov s5 0 30),w30,0⟩,
⟨(r_bin .rem s30 (cn 3) 0 31),w31,4⟩,
⟨(r_indexAddr 1 s29 s31 0 32),w32,14⟩,
⟨(r_load 1 false s32 0 33),w33,30⟩,
⟨(r_callF 21 [(cb 26),s33,(cn 0),(cn 0)] 0 34),w34,63⟩,
⟨(r_buildSlice 4 2 [db,di,di,di] [(0,s28),(1,s34)] 0 35),w35,127⟩,
⟨(r_mov s35 0 4),w4,255⟩] 9)
.ret))
(.seq (.region [qBin bEql .eql s19 (cn 26) w37,
qMov s37 w36] 2)
(.cond s36 (.seq (.region [qMov s5 w38,
qBin (bGen .rem) .rem s38 (cn 2) w39,
qBin bAdd .add (cn 5) s39 w40,
seqO (r_callF 21 [(cb 26),s40,(cn 0),(cn 0)] 0 41) w41,
seqO (r_buildSlice 4 1 [db,di,di,di] [(0,s41)] 0 42) w42,
qMov s42 w4] 6)
.ret)
(.seq (.region [qBin bEql .eql s19 (cn 27) w44,
qMov s44 w43] 2)
(.cond s43 (.seq (.region [seqO (r_callF 21 [(cb 24),(cn 7),(cn 0),(cn 0)] 0 45) w45,
seqO (r_callF 21 [(cb 27),(cn 3),(cn 0),(cn 0)] 0 46) w46,
seqO (r_buildSlice 4 2 [db,di,di,di] [(0,s45),(1,s46)] 0 47) w47,
qMov s47 w4] 4)
.ret)
(.seq (.region [qBin bEql .eql s19 (cn 28) w49,
qMov s49 w48] 2)
(.cond s48 (.seq (.region [seqO (r_callF 21 [(cb 33),(cn 1),(cn 7),(cn 0)] 0 50) w50,
seqO (r_callF 21 [(cb 5),(cn 7),(cn 0),(cn 0)] 0 51) w51,
seqO (r_callF 21 [(cb 2),(cn 2),(cn 1),(cn 0)] 0 52) w52,
seqO (r_callF 21 [(cb 29),(cn 1),(cn 0),(cn 0)] 0 53) w53,
seqO (r_buildSlice 4 4 [db,di,di,di] [(0,s50),(1,s51),(2,s52),(3,s53)] 0 54) w54,
qMov s54 w8] 6)
(.seq (.region [qMov s8 w55,
qMov s5 w56,
qBin (bGen .rem) .rem s56 (cn 4) w57,
seqO (r_indexAddr 4 s55 s57 0 58) w58,
seqO (r_load 4 true s58 0 59) w59,
seqO (r_buildSlice 4 1 [db,di,di,di] [(0,s59)] 0 60) w60,
qMov s60 w4] 7)
.ret))
(.seq (.region [qBin bEql .eql s19 (cn 29) w62,
qMov s62 w61] 2)
(.cond s61 (.seq (.draw [⟨(r_load 4 true s6 0 63),w63,0⟩,
⟨(r_callF 21 [(cb 28),(cn 0),(cn 0),(cn 0)] 0 64),w64,0⟩,
⟨(r_buildSlice 4 2 [db,di,di,di] [(0,s63),(1,s64)] 0 65),w65,3⟩,
⟨(r_mov s65 0 4),w4,7⟩] 4)
.ret)
(.seq (.region [qBin bEql .eql s19 (cn 30) w67,
qMov s67 w66] 2)
(.cond s66 (.seq (.draw [⟨(r_load 4 true s6 0 68),w68,0⟩,
⟨(r_callF 21 [(cb 30),(cn 0),(cn 0),(cn 0)] 0 69),w69,0⟩,
⟨(r_buildSlice 4 2 [db,di,di,di] [(0,s68),(1,s69)] 0 70),w70,3⟩,
⟨(r_mov s70 0 4),w4,7⟩] 4)
.ret)
(.seq (.region [qBin bEql .eql s19 (cn 31) w72,
qMov s72 w71] 2)
(.cond s71 (.seq (.draw [⟨(r_load 4 true s6 0 73),w73,0⟩,
⟨(r_callF 21 [(cb 32),(cn 7),(cn 0),(cn 0)] 0 74),w74,0⟩,
⟨(r_buildSlice 4 2 [db,di,di,di] [(0,s73),(1,s74)] 0 75),w75,3⟩,
⟨(r_mov s75 0 4),w4,7⟩] 4)
.ret)
.skip))))))))))))))))))
(.seq (.region [qMov s5 w76,
seqO (r_callF 21 [(cb 1),(cn 0),s76,(cn 0)] 0 77) w77,
seqO (r_callF 21 [(cb 6),(cn 0),(cn 0),(cn 7)] 0 78) w78,
seqO (r_callF 21 [(cb 7),(cn 7),(cn 7),(cn 0)] 0 79) w79,
seqO (r_callF 21 [(cb 8),(cn 0),(cn 0),(cn 7)] 0 80) w80,
seqO (r_callF 21 [(cb 9),(cn 0),(cn 0),(cn 7)] 0 81) w81,
seqO (r_callF 21 [(cb 10),(cn 1),(cn 0),(cn 7)] 0 82) w82,
seqO (r_callF 21 [(cb 12),(cn 1),(cn 1),(cn 0)] 0 83) w83,
seqO (r_callF 21 [(cb 11),(cn 1),(cn 0),(cn 7)] 0 84) w84,
seqO (r_callF 21 [(cb 17),(cn 3),(cn 0),(cn 0)] 0 85) w85,
seqO (r_callF 21 [(cb 16),(cn 0),(cn 3),(cn 0)] 0 86) w86,
seqO (r_callF 21 [(cb 15),(cn 3),(cn 0),(cn 0)] 0 87) w87,
seqO (r_callF 21 [(cb 4),(cn 3),(cn 0),(cn 0)] 0 88) w88,
seqO (r_callF 21 [(cb 14),(cn 4),(cn 0),(cn 0)] 0 89) w89,
seqO (r_callF 21 [(cb 13),(cn 7),(cn 4),(cn 0)] 0 90) w90,
seqO (r_callF 21 [(cb 14),(cn 4),(cn 2),(cn 3)] 0 91) w91,
seqO (r_callF 21 [(cb 15),(cn 8),(cn 0),(cn 0)] 0 92) w92,
seqO (r_callF 21 [(cb 17),(cn 8),(cn 4),(cn 0)] 0 93) w93,
seqO (r_callF 21 [(cb 16),(cn 4),(cn 8),(cn 0)] 0 94) w94,
seqO (r_callF 21 [(cb 18),(cn 6),(cn 7),(cn 0)] 0 95) w95,
seqO (r_callF 21 [(cb 20),(cn 6),(cn 7),(cn 0)] 0 96) w96,
seqO (r_callF 21 [(cb 19),(cn 0),(cn 6),(cn 7)] 0 97) w97,
seqO (r_callF 21 [(cb 20),(cn 5),(cn 7),(cn 0)] 0 98) w98,
seqO (r_callF 21 [(cb 19),(cn 0),(cn 5),(cn 7)] 0 99) w99,
seqO (r_callF 21 [(cb 21),(cn 7),(cn 6),(cn 0)] 0 100) w100,
seqO (r_buildSlice 4 24 [db,di,di,di] [(0,s77),(1,s78),(2,s79),(3,s80),(4,s81),(5,s82),(6,s83),(7,s84),(8,s85),(9,s86),(10,s87),(11,s88),(12,s89),(13,s90),(14,s91),(15,s92),(16,s93),(17,s94),(18,s95),(19,s96),(20,s97),(21,s98),(22,s99),(23,s100)] 0 101) w101,
qMov s101 w9] 27)
(.seq (.region [qMov s9 w102,
qMov s0 w103,
qBin (bGen .rem) .rem s103 (cn 32) w104,
seqO (r_indexAddr 4 s102 s104 0 105) w105,
seqO (r_load 4 true s105 0 106) w106,
seqO (r_buildSlice 4 1 [db,di,di,di] [(0,s106)] 0 107) w107,
qMov s107 w4] 7)
.ret))))))),false⟩
def q23:QFn:=⟨0,[.cell s0 4 true],
(.seq (.region [seqO (r_alloc [b0,i0,i0,i0] 0 0) w0] 1)
(.seq (.region [seqO (r_callF 21 [(cb 34),(cm 0),(cn 0),(cn 0)] 0 1) w1,
seqO (r_store 4 s0 s1 0 0) wN] 2)
.ret)),false⟩
def q24:QFn:=⟨6,[.cell s12 7 true],
(.seq (.region [seqO (r_alloc [(.d (.sc (.string ⟨#[]⟩))),i0,i0,oF,oF,oF,oF] 0 12) w12] 1)
(.seq (.region [qMov s0 w16,
qMov s3 w17,
qMov s4 w18,
qMov s5 w19,
seqO (r_build [(.d (.sc (.string ⟨#[]⟩))),i0,i0,oF,oF,oF,oF] [(0,1,s16),(1,1,s17),(2,1,s18),(4,1,s19)] 0 20) w20,
seqO (r_alloc [(.d (.sc (.string ⟨#[]⟩))),i0,i0,oF,oF,oF,oF] 0 13) w13,
seqO (r_store 7 s13 s20 0 0) wN] 7)
(.seq (.seq (.region [qMov (cn 0) w14] 1)
(.block 0 (.loop (.seq (.seq (.region [qMov s14 w21,
qMov s2 w22,
seqO (r_len s22 0 23) w23,
qBin bLss .lss s21 s23 w24] 4)
(.cond s24 .skip
(.exit 0)))
(.seq (.block 1 (.seq (.region [qMov s1 w27,
qMov s14 w28,
qMov s14 w29,
qBin bAdd .add s29 (cn 1) w30,
seqO (r_sliceS s27 (some s28) (some s30) 0 31) w31,
qMov s31 w15] 6)
(.seq (.seq (.region [qMov s15 w32,
qBin bEql .eql s32 (cK (.d (.sc (.string ⟨#[111]⟩)))) w33] 2)
(.cond s33 (.region [qMov (cK (.d (.sc (.string ⟨#[111,110]⟩)))) w15] 1)
.skip))
(.draw [⟨(r_fieldAddr 3 s13 0 34),w34,0⟩,
⟨(r_load 1 false s34 0 35),w35,1⟩,
⟨(r_mov s15 0 36),w36,0⟩,
⟨(r_mov s2 0 37),w37,0⟩,
⟨(r_mov s14 0 38),w38,0⟩,
⟨(r_indexAddr 1 s37 s38 0 39),w39,24⟩,
⟨(r_load 1 false s39 0 40),w40,56⟩,
⟨(r_build [(.d (.sc (.string ⟨#[]⟩))),i0] [(0,1,s36),(1,1,s40)] 0 41),w41,124⟩,
⟨(r_buildSlice 2 1 [(.sc (.string ⟨#[]⟩)),di] [(0,s41)] 0 42),w42,252⟩,
⟨(r_append 2 24 s35 s42 0 43),w43,511⟩,
⟨(r_fieldAddr 3 s13 0 44),w44,1023⟩,
⟨(r_store 1 s44 s43 0 0),wN,2047⟩] 12))))
(.region [qMov s14 w25,
qBin bAdd .add s25 (cn 1) w26,
qMov s26 w14] 3))))))
(.seq (.region [qMov s5 w45,
seqO (r_len s45 0 46) w46,
seqO (r_makeSlice 1 8 [du] s46 s46 0 47) w47,
seqO (r_call 54 [s47] 0 48) w48,
qFad 5 s13 w49,
seqO (r_store 1 s49 s48 0 0) wN] 6)
(.seq (.region [qMov s5 w50,
seqO (r_len s50 0 51) w51,
seqO (r_makeSlice 1 8 [du] s51 s51 0 52) w52,
seqO (r_call 54 [s52] 0 53) w53,
qFad 6 s13 w54,
seqO (r_store 1 s54 s53 0 0) wN] 6)
(.seq (.region [seqO (r_load 7 true s13 0 55) w55,
seqO (r_store 7 s12 s55 0 0) wN] 2)
.ret)))))),false⟩
def q25:QFn:=⟨0,[.t s0],
(.seq (.region [qMov (cK oF) w0] 1)
(.seq (.region [seqO (r_buildSlice 1 3 [di] [(0,(cn 0)),(1,(cn 0)),(2,(cn 1))] 0 1) w1,
seqO (r_callF 21 [(cb 1),(cn 1),(cn 1),(cn 0)] 0 2) w2,
seqO (r_callF 21 [(cb 10),(cn 2),(cn 0),(cn 1)] 0 3) w3,
seqO (r_callF 21 [(cb 23),(cn 2),(cn 8),(cn 0)] 0 4) w4,
seqO (r_callF 21 [(cb 7),(cn 1),(cn 0),(cn 1)] 0 5) w5,
seqO (r_callF 21 [(cb 24),(cn 1),(cn 0),(cn 0)] 0 6) w6,
seqO (r_callF 21 [(cb 25),(cn 1),(cn 1),(cn 0)] 0 7) w7,
seqO (r_callF 21 [(cb 6),(cn 1),(cn 1),(cn 0)] 0 8) w8,
seqO (r_callF 21 [(cb 34),(cn 1),(cn 0),(cn 0)] 0 9) w9,
seqO (r_callF 21 [(cb 34),(cn 0),(cn 0),(cn 0)] 0 10) w10,
seqO (r_callF 23 [] 0 11) w11,
seqO (r_buildSlice 4 10 [db,di,di,di] [(0,s2),(1,s3),(2,s4),(3,s5),(4,s6),(5,s7),(6,s8),(7,s9),(8,s10),(9,s11)] 0 12) w12,
seqO (r_call 24 [(cK (.d (.sc (.string ⟨#[119,111,114,107]⟩)))),(cK (.d (.sc (.string ⟨#[110,107,111]⟩)))),s1,(cn 1),(cn 0),s12] 0 13) w13,
seqO (r_buildSlice 1 3 [di] [(0,(cn 0)),(1,(cn 1)),(2,(cn 0))] 0 14) w14,
seqO (r_callF 21 [(cb 29),(cn 1),(cn 2),(cn 0)] 0 15) w15,
seqO (r_callF 21 [(cb 23),(cn 1),(cn 4),(cn 0)] 0 16) w16,
seqO (r_callF 21 [(cb 10),(cn 1),(cn 0),(cn 2)] 0 17) w17,
seqO (r_callF 21 [(cb 23),(cn 1),(cn 5),(cn 0)] 0 18) w18,
seqO (r_callF 23 [] 0 19) w19,
seqO (r_callF 21 [(cb 28),(cn 0),(cn 0),(cn 0)] 0 20) w20,
seqO (r_callF 23 [] 0 21) w21,
seqO (r_buildSlice 4 7 [db,di,di,di] [(0,s15),(1,s16),(2,s17),(3,s18),(4,s19),(5,s20),(6,s21)] 0 22) w22,
seqO (r_call 24 [(cK (.d (.sc (.string ⟨#[108,97,116,101]⟩)))),(cK (.d (.sc (.string ⟨#[110,111,107]⟩)))),s14,(cn 1),(cm 0),s22] 0 23) w23,
seqO (r_buildSlice 1 2 [di] [(0,(cn 0)),(1,(cn 1))] 0 24) w24,
seqO (r_callF 21 [(cb 31),(cn 0),(cn 0),(cn 0)] 0 25) w25,
seqO (r_callF 21 [(cb 33),(cn 1),(cn 0),(cn 0)] 0 26) w26,
seqO (r_callF 21 [(cb 23),(cn 1),(cn 4),(cn 0)] 0 27) w27,
seqO (r_callF 21 [(cb 32),(cn 0),(cn 0),(cn 0)] 0 28) w28,
seqO (r_callF 23 [] 0 29) w29,
seqO (r_buildSlice 4 5 [db,di,di,di] [(0,s25),(1,s26),(2,s27),(3,s28),(4,s29)] 0 30) w30,
seqO (r_call 24 [(cK (.d (.sc (.string ⟨#[116,97,115,107]⟩)))),(cK (.d (.sc (.string ⟨#[107,111]⟩)))),s24,(cn 1),(cm 0),s30] 0 31) w31,
seqO (r_buildSlice 1 1 [di] [(0,(cn 0))] 0 32) w32,
seqO (r_callF 21 [(cb 28),(cn 0),(cn 0),(cn 0)] 0 33) w33,
seqO (r_callF 23 [] 0 34) w34,
seqO (r_buildSlice 4 2 [db,di,di,di] [(0,s33),(1,s34)] 0 35) w35,
seqO (r_call 24 [(cK (.d (.sc (.string ⟨#[102,97,105,108]⟩)))),(cK (.d (.sc (.string ⟨#[110]⟩)))),s32,(cn 1),(cm 0),s35] 0 36) w36,
seqO (r_callF 21 [(cb 30),(cn 0),(cn 0),(cn 0)] 0 37) w37,
seqO (r_callF 23 [] 0 38) w38,
seqO (r_buildSlice 4 2 [db,di,di,di] [(0,s37),(1,s38)] 0 39) w39,
seqO (r_call 24 [(cK (.d (.sc (.string ⟨#[108,101,97,118,101]⟩)))),(cK (.d (.sc (.string ⟨#[]⟩)))),(cK oF),(cn 0),(cm 0),s39] 0 40) w40,
seqO (r_buildSlice 1 2 [di] [(0,(cn 1)),(1,(cn 0))] 0 41) w41,
seqO (r_callF 21 [(cb 29),(cn 0),(cn 1),(cn 0)] 0 42) w42,
seqO (r_callF 23 [] 0 43) w43,
seqO (r_buildSlice 4 2 [db,di,di,di] [(0,s42),(1,s43)] 0 44) w44,
seqO (r_call 24 [(cK (.d (.sc (.string ⟨#[113,117,105,101,116]⟩)))),(cK (.d (.sc (.string ⟨#[111,110]⟩)))),s41,(cn 0),(cm 0),s44] 0 45) w45,
seqO (r_buildSlice 1 3 [di] [(0,(cn 0)),(1,(cn 1)),(2,(cn 0))] 0 46) w46,
seqO (r_callF 21 [(cb 29),(cn 1),(cn 2),(cn 0)] 0 47) w47,
seqO (r_callF 21 [(cb 28),(cn 0),(cn 0),(cn 0)] 0 48) w48,
seqO (r_callF 23 [] 0 49) w49,
seqO (r_buildSlice 4 3 [db,di,di,di] [(0,s47),(1,s48),(2,s49)] 0 50) w50,
seqO (r_call 24 [(cK (.d (.sc (.string ⟨#[97,103,97,105,110]⟩)))),(cK (.d (.sc (.string ⟨#[110,111,107]⟩)))),s46,(cn 1),(cm 0),s50] 0 51) w51,
seqO (r_buildSlice 7 7 [(.sc (.string ⟨#[]⟩)),di,di,(.sl []),(.sl []),(.sl []),(.sl [])] [(0,s13),(1,s23),(2,s31),(3,s36),(4,s40),(5,s45),(6,s51)] 0 52) w52,
qMov s52 w0] 53)
.ret)),false⟩
def q26:QFn:=⟨1,[.cell s2 3 true,.t s3],
(.seq (.region [seqO (r_box s0 0 1) w1,
seqO (r_alloc [oF,oF,oF] 0 2) w2,
qMov cF w3] 3)
(.seq (.region [seqO (r_load 3 true s1 0 8) w8,
seqO (r_call 19 [s8] 458755 9) w9,
seqO (r_alloc [oF,oF,oF] 0 4) w4,
seqO (r_store 3 s4 s9 0 0) wN] 4)
(.seq (.seq (.region [seqO (r_load 3 true s1 0 10) w10,
seqO (r_callF 55 [s10] 0 11) w11,
qBin bNeq .neq s11 (cn 0) w12] 3)
(.cond s12 (.seq (.region [seqO (r_load 3 true s4 0 13) w13,
seqO (r_store 3 s2 s13 0 0) wN,
qMov cF w3] 3)
.ret)
.skip))
(.seq (.seq (.region [qMov (cn 0) w5] 1)
(.block 0 (.loop (.seq (.seq (.region [qMov s5 w14,
qFad 2 s4 w15,
qLd s15 w16,
seqO (r_len s16 0 17) w17,
qBin bLss .lss s14 s17 w18] 5)
(.cond s18 .skip
(.exit 0)))
(.seq (.block 1 (.seq (.region [seqO (r_load 3 true s4 0 22) w22,
qMov s5 w23,
seqO (r_callF 56 [s22,s23] 0 24) w24,
qMov s24 w21,
seqO (r_extract s21 0 0 25) w25,
seqO (r_extract s21 1 0 26) w26,
qMov s25 w6,
qMov s26 w7] 8)
(.seq (.region [qMov s7 w27,
qBin bEql .eql s27 (cn 0) w28] 2)
(.cond s28 (.draw [⟨(r_fieldAddr 2 s4 0 29),w29,0⟩,
⟨(r_load 1 false s29 0 30),w30,1⟩,
⟨(r_mov s5 0 31),w31,0⟩,
⟨(r_load 3 true s4 0 32),w32,0⟩,
⟨(r_mov s5 0 33),w33,0⟩,
⟨(r_call 57 [s32,s33] 10 34),w34,24⟩,
⟨(r_indexAddr 7 s30 s31 0 35),w35,63⟩,
⟨(r_store 7 s35 s34 0 0),wN,127⟩] 8)
.skip))))
(.region [qMov s5 w19,
qBin bAdd .add s19 (cn 1) w20,
qMov s20 w5] 3))))))
(.seq (.draw [⟨(r_load 3 true s4 0 36),w36,0⟩,
⟨(r_load 3 true s4 0 37),w37,0⟩,
⟨(r_callF 37 [s37] 0 38),w38,2⟩,
⟨(r_bin .eql s38 (cn 0) 0 39),w39,6⟩,
⟨(r_store 3 s2 s36 0 0),wN,7⟩,
⟨(r_mov s39 0 3),w3,31⟩] 6)
.ret))))),false⟩
def q27:QFn:=⟨1,[.cell s2 2 true],
(.seq (.region [seqO (r_box s0 0 1) w1,
seqO (r_alloc [u0,oF] 0 2) w2] 2)
(.seq (.draw [⟨(r_fieldAddr 0 s1 0 3),w3,0⟩,
⟨(r_load 1 false s3 0 4),w4,1⟩,
⟨(r_buildSlice 1 0 [db] [] 1 5),w5,0⟩,
⟨(r_fieldAddr 1 s1 0 6),w6,0⟩,
⟨(r_load 1 false s6 0 7),w7,8⟩,
⟨(r_append 1 1 s5 s7 1 8),w8,28⟩,
⟨(r_build [u0,oF] [(0,1,s4),(1,1,s8)] 0 9),w9,63⟩,
⟨(r_store 2 s2 s9 0 0),wN,127⟩] 8)
.ret)),false⟩
def q28:QFn:=⟨1,[.t s2],
(.seq (.region [seqO (r_mov (cK oF) 393220 2) w2] 1)
(.seq (.region [seqO (r_buildSlice 6 0 [db,du,du,du,du,di] [] 1 3) w3,
qMov s0 w4,
seqO (r_append 6 48 s3 s4 1 5) w5,
seqO (r_mov s5 393220 2) w2] 4)
.ret)),false⟩
def q29:QFn:=⟨2,[.t s4],
(.seq (.region [seqO (r_box s0 0 2) w2,
qMov (cn 0) w4] 2)
(.seq (.seq (.region [seqO (r_load 12 true s2 0 6) w6,
seqO (r_callF 58 [s6] 0 7) w7,
qMov s7 w5] 3)
(.seq (.region [qMov s5 w8,
qBin bNeq .neq s8 (cn 0) w9] 2)
(.cond s9 (.seq (.region [qMov s5 w10,
qMov s10 w4] 2)
.ret)
.skip)))
(.seq (.seq (.region [qMov s1 w11,
qBin bLss .lss s11 (cn 0) w12,
qMov s12 w13,
gdO s13 false w14 (qMov s1 w14),
gdO s13 false w15 (qFad 10 s2 w15),
gdO s13 false w16 (qLd s15 w16),
gdO s13 false w17 (seqO (r_len s16 0 17) w17),
gdO s13 false w18 (qBin bGeq .geq s14 s17 w18),
qPick s13 cT s18 w19,
qMov s19 w20,
gdO s20 false w21 (qFad 10 s2 w21),
gdO s20 false w22 (qLd s21 w22),
gdO s20 false w23 (qMov s1 w23),
gdO s20 false w24 (seqO (r_indexAddr 6 s22 s23 0 24) w24),
gdO s20 false w25 (qFad 0 s24 w25),
gdO s20 false w26 (qLd s25 w26),
gdO s20 false w27 (qBin bEql .eql s26 (cb 3) w27),
qPick s20 cT s27 w28] 18)
(.cond s28 (.seq (.region [qMov (cn 2) w4] 1)
.ret)
.skip))
(.seq (.region [qMov (cn 0) w4] 1)
.ret)))),false⟩
def q30:QFn:=⟨2,[.t s4],
(.seq (.region [seqO (r_box s0 0 2) w2,
qMov (cK (.d (.sc (.pointer none)))) w4] 2)
(.seq (.draw [⟨(r_fieldAddr 9 s2 0 9),w9,0⟩,
⟨(r_load 1 false s9 0 10),w10,1⟩,
⟨(r_mov s1 0 11),w11,0⟩,
⟨(r_indexAddr 2 s10 s11 0 12),w12,7⟩,
⟨(r_load 2 true s12 0 13),w13,15⟩,
⟨(r_fieldAddr 0 s2 0 14),w14,0⟩,
⟨(r_load 3 true s14 0 15),w15,32⟩,
⟨(r_fieldAddr 10 s2 0 16),w16,0⟩,
⟨(r_load 1 false s16 0 17),w17,128⟩,
⟨(r_mov s1 0 18),w18,0⟩,
⟨(r_indexAddr 6 s17 s18 0 19),w19,896⟩,
⟨(r_fieldAddr 1 s19 0 20),w20,1920⟩,
⟨(r_load 1 false s20 0 21),w21,3968⟩,
⟨(r_call 59 [s13,s15,s21] 10 22),w22,8191⟩,
⟨(r_mov s22 0 8),w8,16383⟩,
⟨(r_extract s8 0 0 23),w23,32767⟩,
⟨(r_extract s8 1 0 24),w24,32767⟩,
⟨(r_mov s23 0 5),w5,65535⟩,
⟨(r_mov s24 0 6),w6,262143⟩] 19)
(.seq (.region [qMov s5 w25,
seqO (r_indexAddr 5 s25 (cn 0) 0 26) w26,
seqO (r_load 5 true s26 0 27) w27,
seqO (r_alloc [u0,i0,i0,u0,u0] 0 7) w7,
seqO (r_store 5 s7 s27 0 0) wN] 5)
(.seq (.draw [⟨(r_load 12 true s2 0 28),w28,0⟩,
⟨(r_call 34 [s28] 7883498371153920 29),w29,1⟩,
⟨(r_mov s1 0 30),w30,0⟩,
⟨(r_load 5 true s7 0 31),w31,0⟩,
⟨(r_fieldAddr 0 s2 0 32),w32,0⟩,
⟨(r_fieldAddr 2 s32 0 33),w33,16⟩,
⟨(r_load 1 false s33 0 34),w34,48⟩,
⟨(r_fieldAddr 1 s7 0 35),w35,0⟩,
⟨(r_load 1 false s35 0 36),w36,128⟩,
⟨(r_indexAddr 7 s34 s36 0 37),w37,496⟩,
⟨(r_fieldAddr 4 s37 0 38),w38,1008⟩,
⟨(r_load 1 false s38 0 39),w39,2032⟩,
⟨(r_fieldAddr 2 s7 0 40),w40,0⟩,
⟨(r_load 1 false s40 0 41),w41,4096⟩,
⟨(r_indexAddr 4 s39 s41 0 42),w42,16368⟩,
⟨(r_load 4 true s42 0 43),w43,32752⟩,
⟨(r_build [oF,oF,oF,i0,i0,i0,i0,u0,oF,oF,oF,i0,i0,u0,i0,i0,u0,u0,b0,i0,i0,i0] [(0,12,s29),(12,1,s30),(13,5,s31),(18,4,s43)] 0 44),w44,65535⟩,
⟨(fr fun d=>r_box s44 0 d),w45,131071⟩,
⟨(r_mov s45 0 4),w4,262143⟩] 19)
.ret)))),true⟩
def q31:QFn:=⟨1,[.t s2],
(.seq (.region [qMov cF w2] 1)
(.seq (.seq (.region [qMov s0 w3] 1)
(.block 0 (.seq (.seq (.region [qBin bEql .eql s3 (cb 25) w5,
qMov s5 w4] 2)
(.cond s4 .skip
(.seq (.region [qBin bEql .eql s3 (cb 26) w6,
qMov s6 w4] 2)
(.cond s4 .skip
(.seq (.region [qBin bEql .eql s3 (cb 27) w7,
qMov s7 w4] 2)
(.cond s4 .skip
(.seq (.region [qBin bEql .eql s3 (cb 28) w8,
qMov s8 w4] 2)
(.cond s4 .skip
(.seq (.region [qBin bEql .eql s3 (cb 30) w9,
qMov s9 w4] 2)
(.cond s4 .skip
(.region [qBin bEql .eql s3 (cb 34) w10,
qMov s10 w4] 2)))))))))))
(.cond s4 (.seq (.region [qMov cF w2] 1)
.ret)
.skip))))
(.seq (.region [qMov s0 w11,
qBin bGeq .geq s11 (cb 1) w12,
qMov s12 w13,
gdO s13 true w14 (qMov s0 w14),
gdO s13 true w15 (qBin bLeq .leq s14 (cb 34) w15),
qPick s13 s15 cF w16,
qMov s16 w2] 7)
.ret))),false⟩
def q32:QFn:=⟨2,[.cell s4 12 true,.cell s5 2 true,.t s6],
(.seq (.region [seqO (r_box s0 0 2) w2,
seqO (r_alloc [oF,oF,oF,i0,i0,i0,i0,u0,oF,oF,oF,i0] 0 4) w4,
seqO (r_alloc [i0,b0] 0 5) w5,
qMov (cn 0) w6] 4)
(.seq (.seq (.region [seqO (r_load 12 true s2 0 13) w13,
seqO (r_callF 58 [s13] 0 14) w14,
qMov s14 w7] 3)
(.seq (.region [qMov s7 w15,
qBin bNeq .neq s15 (cn 0) w16] 2)
(.cond s16 (.seq (.region [seqO (r_build [oF,oF,oF,i0,i0,i0,i0,u0,oF,oF,oF,i0] [] 0 17) w17,
seqO (r_build [i0,b0] [] 0 18) w18,
qMov s7 w19,
seqO (r_store 12 s4 s17 0 0) wN,
seqO (r_store 2 s5 s18 0 0) wN,
qMov s19 w6] 6)
.ret)
.skip)))
(.seq (.seq (.region [qMov s1 w20,
qBin bLss .lss s20 (cn 0) w21,
qMov s21 w22,
gdO s22 false w23 (qMov s1 w23),
gdO s22 false w24 (qFad 10 s2 w24),
gdO s22 false w25 (qLd s24 w25),
gdO s22 false w26 (seqO (r_len s25 0 26) w26),
gdO s22 false w27 (qBin bGeq .geq s23 s26 w27),
qPick s22 cT s27 w28,
qMov s28 w29,
gdO s29 false w30 (qFad 10 s2 w30),
gdO s29 false w31 (qLd s30 w31),
gdO s29 false w32 (qMov s1 w32),
gdO s29 false w33 (seqO (r_indexAddr 6 s31 s32 0 33) w33),
gdO s29 false w34 (qFad 0 s33 w34),
gdO s29 false w35 (qLd s34 w35),
gdO s29 false w36 (qBin bNeq .neq s35 (cb 1) w36),
qPick s29 cT s36 w37] 18)
(.cond s37 (.seq (.region [seqO (r_build [oF,oF,oF,i0,i0,i0,i0,u0,oF,oF,oF,i0] [] 0 38) w38,
seqO (r_build [i0,b0] [] 0 39) w39,
seqO (r_store 12 s4 s38 0 0) wN,
seqO (r_store 2 s5 s39 0 0) wN,
qMov (cn 2) w6] 5)
.ret)
.skip))
(.seq (.region [seqO (r_load 12 true s2 0 40) w40,
qMov s1 w41,
seqO (r_call 60 [s40,s41] 0 42) w42,
qMov s42 w8] 4)
(.seq (.draw [⟨(r_fieldAddr 0 s2 0 43),w43,0⟩,
⟨(r_fieldAddr 2 s43 0 44),w44,1⟩,
⟨(r_load 1 false s44 0 45),w45,3⟩,
⟨(r_mov s8 0 46),w46,0⟩,
⟨(r_nilCheck s46 0 47),w47,8⟩,
⟨(r_fieldAddr 13 s47 0 48),w48,24⟩,
⟨(r_load 1 false s48 0 49),w49,56⟩,
⟨(r_indexAddr 7 s45 s49 0 50),w50,127⟩,
⟨(r_fieldAddr 4 s50 0 51),w51,255⟩,
⟨(r_load 1 false s51 0 52),w52,511⟩,
⟨(r_mov s8 0 53),w53,0⟩,
⟨(r_nilCheck s53 0 54),w54,1024⟩,
⟨(r_fieldAddr 14 s54 0 55),w55,3072⟩,
⟨(r_load 1 false s55 0 56),w56,7168⟩,
⟨(r_indexAddr 4 s52 s56 0 57),w57,16383⟩,
⟨(r_load 4 true s57 0 58),w58,32767⟩,
⟨(r_alloc [b0,i0,i0,i0] 0 9),w9,0⟩,
⟨(r_store 4 s9 s58 0 0),wN,131071⟩] 18)
(.seq (.seq (.region [qFad 0 s9 w59,
qLd s59 w60,
seqO (r_callF 31 [s60] 0 61) w61,
seqO (r_un .not s61 0 62) w62] 4)
(.cond s62 (.seq (.region [seqO (r_build [oF,oF,oF,i0,i0,i0,i0,u0,oF,oF,oF,i0] [] 0 63) w63,
seqO (r_build [i0,b0] [] 0 64) w64,
seqO (r_store 12 s4 s63 0 0) wN,
seqO (r_store 2 s5 s64 0 0) wN,
qMov (cn 2) w6] 5)
.ret)
.skip))
(.seq (.seq (.region [qFad 11 s2 w65,
qLd s65 w66,
qFad 3 s2 w67,
qFad 0 s67 w68,
qLd s68 w69,
qBin bEql .eql s66 s69 w70] 6)
(.cond s70 (.seq (.region [seqO (r_build [oF,oF,oF,i0,i0,i0,i0,u0,oF,oF,oF,i0] [] 0 71) w71,
seqO (r_build [i0,b0] [] 0 72) w72,
seqO (r_store 12 s4 s71 0 0) wN,
seqO (r_store 2 s5 s72 0 0) wN,
qMov (cn 36) w6] 5)
.ret)
.skip))
(.seq (.region [qMov s8 w73,
seqO (r_load 4 true s9 0 74) w74,
seqO (r_call 61 [s73,s74] 0 75) w75,
qMov s75 w10] 4)
(.seq (.region [seqO (r_alloc [i0,b0] 0 11) w11] 1)
(.seq (.region [qMov (cn 0) w12] 1)
(.seq (.block 0 (.seq (.region [qFad 0 s9 w83,
qLd s83 w84,
qBin bLeq .leq s84 (cb 12) w85,
qMov s85 w82] 4)
(.cond s82 (.region [qMov s8 w86,
seqO (r_load 4 true s9 0 87) w87,
seqO (r_call 62 [s86,s87] 0 88) w88,
qFad 0 s11 w89,
seqO (r_store 1 s89 s88 0 0) wN] 5)
(.seq (.region [qFad 0 s9 w91,
qLd s91 w92,
qBin bLeq .leq s92 (cb 21) w93,
qMov s93 w90] 4)
(.cond s90 (.region [qMov s8 w95,
seqO (r_load 4 true s9 0 96) w96,
seqO (r_call 63 [s95,s96] 0 97) w97,
qMov s97 w94,
seqO (r_extract s94 0 0 98) w98,
seqO (r_extract s94 1 0 99) w99,
seqO (r_store 2 s11 s98 0 0) wN,
qMov s99 w12] 8)
(.region [qMov s8 w77,
seqO (r_load 4 true s9 0 78) w78,
seqO (r_call 64 [s77,s78] 0 79) w79,
qMov s79 w76,
seqO (r_extract s76 0 0 80) w80,
seqO (r_extract s76 1 0 81) w81,
seqO (r_store 2 s11 s80 0 0) wN,
qMov s81 w12] 8))))))
(.seq (.seq (.region [qMov s12 w100,
qBin bNeq .neq s100 (cn 0) w101] 2)
(.cond s101 (.seq (.region [seqO (r_build [oF,oF,oF,i0,i0,i0,i0,u0,oF,oF,oF,i0] [] 0 102) w102,
seqO (r_build [i0,b0] [] 0 103) w103,
qMov s12 w104,
seqO (r_store 12 s4 s102 0 0) wN,
seqO (r_store 2 s5 s103 0 0) wN,
qMov s104 w6] 6)
.ret)
.skip))
(.seq (.seq (.region [seqO (r_load 2 true s11 0 105) w105,
seqO (r_build [i0,b0] [] 0 106) w106,
seqO (r_eqA true 2 [(0,1),(1,1)] s105 s106 0 107) w107] 3)
(.cond s107 (.seq (.draw [⟨(r_load 12 true s2 0 108),w108,0⟩,
⟨(r_mov s1 0 109),w109,0⟩,
⟨(r_call 60 [s108,s109] 0 110),w110,3⟩,
⟨(r_nilCheck s110 0 111),w111,7⟩,
⟨(r_fieldAddr 0 s111 0 112),w112,15⟩,
⟨(r_load 12 true s112 0 113),w113,31⟩,
⟨(r_load 2 true s11 0 114),w114,0⟩,
⟨(r_store 12 s4 s113 0 0),wN,63⟩,
⟨(r_store 2 s5 s114 0 0),wN,255⟩,
⟨(r_mov (cn 0) 0 6),w6,511⟩] 10)
.ret)
.skip))
(.seq (.draw [⟨(r_mov s8 0 115),w115,0⟩,
⟨(r_nilCheck s115 0 116),w116,1⟩,
⟨(r_fieldAddr 0 s116 0 117),w117,3⟩,
⟨(r_fieldAddr 10 s117 0 118),w118,7⟩,
⟨(r_load 1 false s118 0 119),w119,15⟩,
⟨(r_mov s1 0 120),w120,0⟩,
⟨(r_mov s8 0 121),w121,0⟩,
⟨(r_nilCheck s121 0 122),w122,64⟩,
⟨(r_fieldAddr 13 s122 0 123),w123,192⟩,
⟨(r_load 1 false s123 0 124),w124,448⟩,
⟨(r_bin .add s124 (cn 1) 0 125),w125,960⟩,
⟨(r_conv .u64 s125 0 126),w126,1984⟩,
⟨(r_bin .mul (cu 256) s126 0 127),w127,4032⟩,
⟨(r_mov s10 0 128),w128,0⟩,
⟨(r_conv .u64 s128 0 129),w129,8192⟩,
⟨(r_bin .add s127 s129 0 130),w130,32704⟩,
⟨(r_indexAddr 6 s119 s120 0 131),w131,65535⟩,
⟨(r_fieldAddr 1 s131 0 132),w132,131071⟩,
⟨(r_store 1 s132 s130 0 0),wN,262143⟩] 19)
(.seq (.region [qMov s8 w133,
seqO (r_nilCheck s133 0 134) w134,
qFad 0 s134 w135,
qFad 11 s135 w136,
qLd s136 w137,
qBin bAdd .add s137 (cn 1) w138,
seqO (r_nilCheck s133 0 139) w139,
qFad 0 s139 w140,
qFad 11 s140 w141,
seqO (r_store 1 s141 s138 0 0) wN] 10)
(.seq (.draw [⟨(r_mov s8 0 142),w142,0⟩,
⟨(r_nilCheck s142 0 143),w143,1⟩,
⟨(r_fieldAddr 0 s143 0 144),w144,3⟩,
⟨(r_load 12 true s144 0 145),w145,7⟩,
⟨(r_load 2 true s11 0 146),w146,0⟩,
⟨(r_store 12 s4 s145 0 0),wN,15⟩,
⟨(r_store 2 s5 s146 0 0),wN,63⟩,
⟨(r_mov (cn 0) 0 6),w6,127⟩] 8)
.ret)))))))))))))))),false⟩
def q33:QFn:=⟨2,[.cell s4 2 true],
(.seq (.region [seqO (r_alloc [b0,i0] 0 4) w4] 1)
(.seq (.seq (.region [qMov s1 w6,
qBin bGtr .gtr s6 (cn 0) w7] 2)
(.cond s7 (.seq (.region [qMov s0 w8,
qMov s1 w9,
seqO (r_conv .u64 s9 0 10) w10,
seqO (r_build [u0,u0,u0,u0,u0,u0,u0] [(1,1,(cu 4)),(2,1,s10)] 0 11) w11,
seqO (r_call 65 [s8,s11] 0 12) w12,
seqO (r_store 2 s4 s12 0 0) wN] 6)
.ret)
.skip))
(.seq (.seq (.region [qMov s0 w13,
seqO (r_nilCheck s13 0 14) w14,
qFad 18 s14 w15,
qFad 0 s15 w16,
qLd s16 w17] 5)
(.block 0 (.seq (.region [qBin bEql .eql s17 (cb 25) w19,
qMov s19 w18] 2)
(.cond s18 (.seq (.region [qMov s0 w20,
qMov s0 w21,
seqO (r_nilCheck s21 0 22) w22,
qFad 18 s22 w23,
qFad 2 s23 w24,
qLd s24 w25,
seqO (r_call 66 [s20,s25] 0 26) w26,
qMov s26 w5] 8)
(.seq (.draw [⟨(r_mov s0 0 27),w27,0⟩,
⟨(r_mov s0 0 28),w28,0⟩,
⟨(r_nilCheck s28 0 29),w29,2⟩,
⟨(r_fieldAddr 12 s29 0 30),w30,6⟩,
⟨(r_load 1 false s30 0 31),w31,14⟩,
⟨(r_mov s0 0 32),w32,0⟩,
⟨(r_nilCheck s32 0 33),w33,32⟩,
⟨(r_fieldAddr 18 s33 0 34),w34,96⟩,
⟨(r_fieldAddr 2 s34 0 35),w35,224⟩,
⟨(r_load 1 false s35 0 36),w36,480⟩,
⟨(r_mov s0 0 37),w37,0⟩,
⟨(r_call 68 [s37] 0 38),w38,1024⟩,
⟨(r_nilCheck s38 0 39),w39,3072⟩,
⟨(r_fieldAddr 1 s39 0 40),w40,7168⟩,
⟨(r_load 1 false s40 0 41),w41,15360⟩,
⟨(r_bin .add s41 (cu 1) 0 42),w42,31744⟩,
⟨(r_mov s5 0 43),w43,0⟩,
⟨(r_call 67 [s27,s31,s36,s42,(cu 0),(cu 0),s43] 0 44),w44,131071⟩,
⟨(r_store 2 s4 s44 0 0),wN,262143⟩] 19)
.ret))
(.seq (.region [qBin bEql .eql s17 (cb 26) w46,
qMov s46 w45] 2)
(.cond s45 (.seq (.region [qMov s0 w47,
seqO (r_call 69 [s47] 0 48) w48,
seqO (r_store 2 s4 s48 0 0) wN] 3)
.ret)
(.seq (.region [qBin bEql .eql s17 (cb 27) w50,
qMov s50 w49] 2)
(.cond s49 (.seq (.region [qMov s0 w51,
seqO (r_call 70 [s51] 0 52) w52,
seqO (r_store 2 s4 s52 0 0) wN] 3)
.ret)
(.seq (.region [qBin bEql .eql s17 (cb 34) w54,
qMov s54 w53] 2)
(.cond s53 (.seq (.region [qMov s0 w55,
seqO (r_call 71 [s55] 0 56) w56,
seqO (r_store 2 s4 s56 0 0) wN] 3)
.ret)
.skip))))))))))
(.seq (.region [qMov s0 w57,
qMov s0 w58,
seqO (r_call 72 [s58] 0 59) w59,
seqO (r_call 65 [s57,s59] 0 60) w60,
seqO (r_store 2 s4 s60 0 0) wN] 5)
.ret)))),true⟩
def q34:QFn:=⟨1,[.cell s2 12 true],
(.seq (.region [seqO (r_box s0 0 1) w1,
seqO (r_alloc [oF,oF,oF,i0,i0,i0,i0,u0,oF,oF,oF,i0] 0 2) w2] 2)
(.seq (.region [qFad 7 s1 w4,
qFad 1 s4 w5,
qLd s5 w6,
seqO (fr fun d=>r_clone 1 1 s6 1 d) w7,
qFad 7 s1 w8,
qFad 1 s8 w9,
seqO (r_store 1 s9 s7 0 0) wN] 7)
(.seq (.region [qFad 9 s1 w10,
qLd s10 w11,
seqO (fr fun d=>r_clone 2 32 s11 11 d) w12,
qFad 9 s1 w13,
seqO (r_store 1 s13 s12 0 0) wN] 5)
(.seq (.seq (.region [qFad 9 s1 w14,
qLd s14 w15,
seqO (r_len s15 0 16) w16,
qMov (cn 0) w17] 4)
(.block 0 (.loop (.seq (.region [qBin bLss .lss s17 s16 w18] 1)
(.seq (.cond s18 .skip
(.exit 0))
(.seq (.block 1 (.seq (.region [qMov s17 w19,
qMov s19 w3] 2)
(.draw [⟨(r_fieldAddr 9 s1 0 20),w20,0⟩,
⟨(r_load 1 false s20 0 21),w21,1⟩,
⟨(r_mov s3 0 22),w22,0⟩,
⟨(r_fieldAddr 9 s1 0 23),w23,0⟩,
⟨(r_load 1 false s23 0 24),w24,8⟩,
⟨(r_mov s3 0 25),w25,0⟩,
⟨(r_indexAddr 2 s24 s25 0 26),w26,56⟩,
⟨(r_fieldAddr 1 s26 0 27),w27,120⟩,
⟨(r_load 1 false s27 0 28),w28,248⟩,
⟨(fr fun d=>r_clone 1 1 s28 1 d),w29,504⟩,
⟨(r_indexAddr 2 s21 s22 0 30),w30,1023⟩,
⟨(r_fieldAddr 1 s30 0 31),w31,2047⟩,
⟨(r_store 1 s31 s29 0 0),wN,4095⟩] 13)))
(.region [qBin bAdd .add s17 (cn 1) w32,
qMov s32 w17] 2)))))))
(.seq (.region [qFad 10 s1 w33,
qLd s33 w34,
seqO (fr fun d=>r_clone 6 48 s34 1 d) w35,
qFad 10 s1 w36,
seqO (r_store 1 s36 s35 0 0) wN] 5)
(.seq (.region [seqO (r_load 12 true s1 0 37) w37,
seqO (r_store 12 s2 s37 0 0) wN] 2)
.ret)))))),true⟩
def q35:QFn:=⟨2,[.t s4,.t s5],
(.seq (.region [seqO (r_box s0 0 2) w2,
qMov (cK oF) w4,
qMov (cn 0) w5] 3)
(.seq (.seq (.region [seqO (r_load 2 true s2 0 12) w12,
seqO (r_callF 76 [s12,(cn 0)] 0 13) w13,
qMov s13 w11,
seqO (r_extract s11 0 0 14) w14,
seqO (r_extract s11 1 0 15) w15,
qMov s14 w6,
qMov s15 w7] 7)
(.seq (.region [qMov s7 w16,
qBin bNeq .neq s16 (cn 0) w17] 2)
(.cond s17 (.seq (.region [qMov s7 w18,
qMov (cK oF) w4,
qMov s18 w5] 3)
.ret)
.skip)))
(.seq (.region [qMov (cK oF) w8] 1)
(.seq (.block 0 (.loop (.seq (.seq (.region [qMov s1 w19,
qBin bNeq .neq s19 (cu 0) w20] 2)
(.cond s20 .skip
(.exit 0)))
(.block 1 (.seq (.region [seqO (r_load 2 true s2 0 22) w22,
qMov s1 w23,
seqO (r_callF 77 [s22,s23] 0 24) w24,
qMov s24 w21,
seqO (r_extract s21 0 0 25) w25,
seqO (r_extract s21 1 0 26) w26,
seqO (r_alloc [u0,u0,i0,(.d (.sc (.bool false))),u0] 0 9) w9,
seqO (r_store 5 s9 s25 0 0) wN,
qMov s26 w10] 9)
(.seq (.seq (.region [qMov s10 w27,
qBin bNeq .neq s27 (cn 0) w28] 2)
(.cond s28 (.seq (.region [qMov s10 w29,
qMov (cK oF) w4,
qMov s29 w5] 3)
.ret)
.skip))
(.seq (.seq (.region [qFad 0 s9 w30,
qLd s30 w31,
qMov s1 w32,
qBin bGeq .geq s31 s32 w33] 4)
(.cond s33 (.seq (.region [qMov (cK oF) w4,
qMov (cn 32) w5] 2)
.ret)
.skip))
(.draw [⟨(r_mov s8 0 34),w34,0⟩,
⟨(r_load 5 true s9 0 35),w35,0⟩,
⟨(r_buildSlice 5 1 [du,du,di,(.sc (.bool false)),du] [(0,s35)] 0 36),w36,2⟩,
⟨(r_append 5 40 s34 s36 0 37),w37,7⟩,
⟨(r_fieldAddr 0 s9 0 38),w38,0⟩,
⟨(r_load 1 false s38 0 39),w39,16⟩,
⟨(r_mov s37 0 8),w8,15⟩,
⟨(r_mov s39 0 1),w1,127⟩] 8))))))))
(.seq (.region [qMov s8 w40,
qMov s40 w4,
qMov (cn 0) w5] 3)
.ret))))),false⟩
def q36:QFn:=⟨1,[.t s2],
(.seq (.region [seqO (r_box s0 0 1) w1,
qMov (cn 0) w2] 2)
(.seq (.seq (.region [qFad 0 s1 w3,
qLd s3 w4,
seqO (r_callF 78 [s4] 0 5) w5,
seqO (r_un .not s5 0 6) w6,
qMov s6 w7,
gdO s7 false w8 (qFad 1 s1 w8),
gdO s7 false w9 (qLd s8 w9),
gdO s7 false w10 (seqO (r_len s9 0 10) w10),
gdO s7 false w11 (qBin bGtr .gtr s10 (cn 20000) w11),
qPick s7 cT s11 w12] 10)
(.cond s12 (.seq (.region [qMov (cn 8) w2] 1)
.ret)
.skip))
(.seq (.region [qMov (cn 0) w2] 1)
.ret))),false⟩
def q37:QFn:=⟨1,[.t s2],
(.seq (.region [seqO (r_box s0 0 1) w1,
qMov (cn 0) w2] 2)
(.seq (.region [seqO (r_load 3 true s1 0 7) w7,
seqO (r_callF 79 [s7] 0 8) w8,
qMov s8 w6,
seqO (r_extract s6 0 0 9) w9,
seqO (r_extract s6 1 0 10) w10,
seqO (r_extract s6 2 0 11) w11,
qMov s9 w3,
qMov s10 w4,
qMov s11 w5] 9)
(.seq (.region [qMov s5 w12,
qMov s12 w2] 2)
.ret))),false⟩
def q38:QFn:=⟨1,[.t s2],
(.seq (.region [seqO (r_box s0 0 1) w1,
qMov cF w2] 2)
(.seq (.region [seqO (r_load 4 true s1 0 3) w3,
seqO (r_build [oF,i0,i0,i0,i0] [(1,4,s3)] 0 4) w4,
seqO (r_callF 80 [s4] 0 5) w5,
qBin bEql .eql s5 (cn 0) w6,
qMov s6 w2] 5)
.ret)),false⟩
def q39:QFn:=⟨1,[.t s2],
(.seq (.region [seqO (r_box s0 0 1) w1,
qMov cF w2] 2)
(.seq (.region [qFad 0 s1 w3,
qLd s3 w4,
qBin bEql .eql s4 (cu 65536) w5,
qMov s5 w6,
gdO s6 true w7 (qFad 1 s1 w7),
gdO s6 true w8 (qLd s7 w8),
gdO s6 true w9 (seqO (r_len s8 0 9) w9),
gdO s6 true w10 (qBin (bGen .rem) .rem s9 (cn 8) w10),
gdO s6 true w11 (qBin bEql .eql s10 (cn 0) w11),
qPick s6 s11 cF w12,
qMov s12 w13,
gdO s13 true w14 (qFad 1 s1 w14),
gdO s13 true w15 (qLd s14 w15),
gdO s13 true w16 (seqO (r_len s15 0 16) w16),
gdO s13 true w17 (qBin bLeq .leq s16 (cn 16384) w17),
qPick s13 s17 cF w18,
qMov s18 w2] 17)
.ret)),false⟩
def q40:QFn:=⟨1,[.t s2],
(.seq (.region [qMov (cn 0) w2] 1)
(.seq (.seq (.region [qMov s0 w4,
seqO (r_len s4 0 5) w5,
qBin bEql .eql s5 (cn 0) w6,
qMov s6 w7,
gdO s7 false w8 (qMov s0 w8),
gdO s7 false w9 (seqO (r_len s8 0 9) w9),
gdO s7 false w10 (qBin bGtr .gtr s9 (cn 16) w10),
qPick s7 cT s10 w11] 8)
(.cond s11 (.seq (.region [qMov (cn 8) w2] 1)
.ret)
.skip))
(.seq (.seq (.region [qMov (cn 0) w3] 1)
(.block 0 (.loop (.seq (.seq (.region [qMov s3 w12,
qMov s0 w13,
seqO (r_len s13 0 14) w14,
qBin bLss .lss s12 s14 w15] 4)
(.cond s15 .skip
(.exit 0)))
(.seq (.block 1 (.seq (.region [qMov s3 w18,
qMov s0 w19,
qMov s3 w20,
seqO (r_indexAddr 6 s19 s20 0 21) w21,
seqO (r_load 6 true s21 0 22) w22,
seqO (r_callF 81 [s18,s22] 0 23) w23,
seqO (r_un .not s23 0 24) w24] 7)
(.cond s24 (.seq (.region [qMov (cn 8) w2] 1)
.ret)
.skip)))
(.region [qMov s3 w16,
qBin bAdd .add s16 (cn 1) w17,
qMov s17 w3] 3))))))
(.seq (.region [qMov (cn 0) w2] 1)
.ret)))),false⟩
def q41:QFn:=⟨1,[.t s2],
(.seq (.region [seqO (r_box s0 0 1) w1,
qMov cF w2] 2)
(.seq (.seq (.region [qMov (cu 1) w3] 1)
(.block 0 (.loop (.seq (.seq (.region [qMov s3 w4,
qBin bLeq .leq s4 (cu 16) w5] 2)
(.cond s5 .skip
(.exit 0)))
(.seq (.block 1 (.seq (.region [qFad 0 s1 w8,
qLd s8 w9,
qMov s3 w10,
qBin (bGen .mul) .mul (cu 16777216) s10 w11,
qBin bEql .eql s9 s11 w12] 5)
(.cond s12 (.seq (.region [qFad 1 s1 w13,
qLd s13 w14,
seqO (r_len s14 0 15) w15,
qBin (bGen .rem) .rem s15 (cn 8) w16,
qBin bEql .eql s16 (cn 0) w17,
qMov s17 w18,
gdO s18 true w19 (qFad 1 s1 w19),
gdO s18 true w20 (qLd s19 w20),
gdO s18 true w21 (seqO (r_len s20 0 21) w21),
gdO s18 true w22 (qBin bLeq .leq s21 (cn 4096) w22),
qPick s18 s22 cF w23,
qMov s23 w2] 12)
.ret)
.skip)))
(.region [qMov s3 w6,
qBin bAdd .add s6 (cu 1) w7,
qMov s7 w3] 3))))))
(.seq (.region [qMov cF w2] 1)
.ret))),false⟩
def q42:QFn:=⟨3,[.t s6,.t s7],
(.seq (.region [seqO (r_box s0 0 3) w3,
seqO (r_box s1 0 4) w4,
qMov (cK oF) w6,
qMov (cn 0) w7] 4)
(.seq (.region [qMov (cK oF) w8] 1)
(.seq (.region [qFad 0 s3 w19,
qLd s19 w20,
qFad 1 s3 w21,
qLd s21 w22,
seqO (r_len s22 0 23) w23,
seqO (r_conv .u64 s23 0 24) w24,
qBin bAdd .add s20 s24 w25,
qMov s25 w9,
qMov (cn 0) w10] 9)
(.block 0 (.loop (.block 1 (.seq (.region [seqO (r_load 3 true s4 0 27) w27,
qMov s2 w28,
seqO (r_callF 82 [s27,s28] 0 29) w29,
qMov s29 w26,
seqO (r_extract s26 0 0 30) w30,
seqO (r_extract s26 1 0 31) w31,
seqO (r_extract s26 2 0 32) w32,
qMov s30 w11,
qMov s31 w12,
qMov s32 w13] 10)
(.seq (.seq (.region [qMov s13 w33,
seqO (r_un .not s33 0 34) w34] 2)
(.cond s34 (.seq (.region [qMov (cK oF) w6,
qMov (cn 6) w7] 2)
.ret)
.skip))
(.seq (.region [seqO (r_load 3 true s4 0 35) w35,
qMov s11 w36,
qMov s12 w37,
seqO (r_callF 83 [s35,s36,s37] 0 38) w38,
seqO (r_conv .u64 s38 0 39) w39,
qMov s39 w14] 6)
(.seq (.seq (.region [qMov s14 w40,
qBin bGtr .gtr s40 (cu 4096) w41,
qMov s41 w42,
gdO s42 false w43 (qMov s14 w43),
gdO s42 false w44 (qMov s9 w44),
gdO s42 false w45 (qFad 0 s3 w45),
gdO s42 false w46 (qLd s45 w46),
gdO s42 false w47 (qBin bSub .sub s44 s46 w47),
gdO s42 false w48 (qBin bGtr .gtr s43 s47 w48),
qPick s42 cT s48 w49] 10)
(.cond s49 (.seq (.region [qMov (cK oF) w6,
qMov (cn 16) w7] 2)
.ret)
.skip))
(.seq (.region [qMov s9 w50,
qMov s14 w51,
qBin bSub .sub s50 s51 w52,
qMov s52 w9] 4)
(.seq (.region [seqO (r_load 2 true s3 0 54) w54,
qMov s9 w55,
seqO (r_callF 84 [s54,s55] 0 56) w56,
qMov s56 w53,
seqO (r_extract s53 0 0 57) w57,
seqO (r_extract s53 1 0 58) w58,
seqO (r_extract s53 2 0 59) w59,
seqO (r_extract s53 3 0 60) w60,
qMov s57 w15,
qMov s58 w16,
qMov s59 w17,
qMov s60 w18] 12)
(.seq (.seq (.region [qMov s18 w61,
qBin bNeq .neq s61 (cn 0) w62,
qMov s62 w63,
gdO s63 false w64 (qMov s15 w64),
gdO s63 false w65 (qBin bEql .eql s64 (cu 0) w65),
gdO s63 false w66 (qMov s65 w66),
gdO s66 true w67 (qMov s9 w67),
gdO s66 true w68 (qFad 0 s3 w68),
gdO s66 true w69 (qLd s68 w69),
gdO s66 true w70 (qBin bNeq .neq s67 s69 w70),
gdO s63 false w71 (qPick s66 s70 cF w71),
qPick s63 cT s71 w72,
qMov s72 w73,
gdO s73 false w74 (qMov s15 w74),
gdO s73 false w75 (qBin bNeq .neq s74 (cu 0) w75),
gdO s73 false w76 (qMov s75 w76),
gdO s76 true w77 (qMov s9 w77),
gdO s76 true w78 (qFad 0 s3 w78),
gdO s76 true w79 (qLd s78 w79),
gdO s76 true w80 (qBin bEql .eql s77 s79 w80),
gdO s73 false w81 (qPick s76 s80 cF w81),
qPick s73 cT s81 w82,
qMov s82 w83,
gdO s83 false w84 (qMov s16 w84),
gdO s83 false w85 (qBin bEql .eql s84 (cu 0) w85),
gdO s83 false w86 (qMov s85 w86),
gdO s86 true w87 (qMov s15 w87),
gdO s86 true w88 (qBin bNeq .neq s87 (cu 0) w88),
gdO s83 false w89 (qPick s86 s88 cF w89),
gdO s83 false w90 (qMov s89 w90),
gdO s90 true w91 (qMov s15 w91),
gdO s90 true w92 (qBin (bGen .rem) .rem s91 (cu 256) w92),
gdO s90 true w93 (qBin bEql .eql s92 (cu 0) w93),
gdO s83 false w94 (qPick s90 s93 cF w94),
qPick s83 cT s94 w95] 35)
(.cond s95 (.seq (.region [qMov (cK oF) w6,
qMov (cn 12) w7] 2)
.ret)
.skip))
(.seq (.region [qMov s8 w96,
qMov s9 w97,
qMov s11 w98,
qMov s12 w99,
qMov s10 w100,
qBin bSub .sub s99 s100 w101,
qMov s16 w102,
qMov s17 w103,
seqO (r_build [u0,i0,i0,u0,u0] [(0,1,s97),(1,1,s98),(2,1,s101),(3,1,s102),(4,1,s103)] 0 104) w104,
seqO (r_buildSlice 5 1 [du,di,di,du,du] [(0,s104)] 0 105) w105,
seqO (r_append 5 40 s96 s105 0 106) w106,
qMov s106 w8] 12)
(.seq (.seq (.region [qMov s15 w107,
qBin bEql .eql s107 (cu 0) w108] 2)
(.cond s108 (.seq (.region [qMov s8 w109,
qMov s109 w6,
qMov (cn 0) w7] 3)
.ret)
.skip))
(.seq (.region [qMov (cn 0) w10] 1)
(.seq (.seq (.region [qMov s16 w110,
qBin bEql .eql s110 (cu 0) w111] 2)
(.cond s111 (.region [qMov (cn 1) w10] 1)
.skip))
(.region [qMov s15 w112,
qMov s112 w2] 2)))))))))))))))))),false⟩
def q43:QFn:=⟨2,[.cell s4 3 true],
(.seq (.region [seqO (r_alloc [oF,oF,oF] 0 4) w4] 1)
(.seq (.region [seqO (r_build [b0,i0,i0,oF] [(0,1,(cb 2))] 0 11) w11,
seqO (r_build [b0,i0,i0,oF] [(0,1,(cb 1))] 0 12) w12,
seqO (r_buildSlice 4 2 [db,di,di,(.sl [])] [(0,s11),(1,s12)] 0 13) w13,
seqO (r_build [oF,oF,oF] [(0,1,s13)] 0 14) w14,
seqO (r_alloc [oF,oF,oF] 0 5) w5,
seqO (r_store 3 s5 s14 0 0) wN] 6)
(.seq (.seq (.region [qMov (cn 0) w6] 1)
(.block 0 (.loop (.seq (.seq (.region [qMov s6 w15,
qMov s0 w16,
seqO (r_len s16 0 17) w17,
qBin bLss .lss s15 s17 w18] 4)
(.cond s18 .skip
(.exit 0)))
(.seq (.block 1 (.seq (.region [qMov (cK oF) w7] 1)
(.seq (.region [qMov (cK (.d (.sc (.string ⟨#[109,97,105,110]⟩)))) w8] 1)
(.seq (.seq (.region [qMov s6 w21,
qBin bGtr .gtr s21 (cn 0) w22] 2)
(.cond s22 (.seq (.region [qMov s6 w23,
seqO (r_callF 85 [s23] 0 24) w24,
qBin bAdd .add (cK (.d (.sc (.string ⟨#[102]⟩)))) s24 w25,
qMov s25 w8] 4)
(.seq (.region [qMov s1 w26,
qMov s6 w27,
qBin bSub .sub s27 (cn 1) w28,
seqO (r_indexAddr 1 s26 s28 0 29) w29,
qLd s29 w30] 5)
(.cond s30 (.region [qMov s7 w31,
seqO (r_callF 21 [(cb 29),(cn 1),(cn 2),(cn 0)] 0 32) w32,
seqO (r_buildSlice 4 1 [db,di,di,di] [(0,s32)] 0 33) w33,
seqO (r_append 4 32 s31 s33 0 34) w34,
qMov s34 w7] 5)
.skip)))
.skip))
(.seq (.seq (.region [qMov s6 w35,
qBin bAdd .add s35 (cn 1) w36,
qMov s0 w37,
seqO (r_len s37 0 38) w38,
qBin bLss .lss s36 s38 w39] 5)
(.cond s39 (.region [qMov s7 w40,
qMov s6 w41,
qBin bAdd .add s41 (cn 1) w42,
seqO (r_callF 21 [(cb 26),s42,(cn 0),(cn 0)] 0 43) w43,
seqO (r_buildSlice 4 1 [db,di,di,di] [(0,s43)] 0 44) w44,
seqO (r_append 4 32 s40 s44 0 45) w45,
qMov s45 w7] 7)
.skip))
(.seq (.region [qMov s7 w46,
qMov s0 w47,
qMov s6 w48,
seqO (r_indexAddr 1 s47 s48 0 49) w49,
qLd s49 w50,
seqO (r_callF 21 [(cb 1),(cn 0),s50,(cn 0)] 0 51) w51,
seqO (r_callF 21 [(cb 28),(cn 0),(cn 0),(cn 0)] 0 52) w52,
seqO (r_callF 23 [] 0 53) w53,
seqO (r_buildSlice 4 3 [db,di,di,di] [(0,s51),(1,s52),(2,s53)] 0 54) w54,
seqO (r_append 4 32 s46 s54 0 55) w55,
qMov s55 w7] 11)
(.draw [⟨(r_fieldAddr 2 s5 0 56),w56,0⟩,
⟨(r_load 1 false s56 0 57),w57,1⟩,
⟨(r_mov s8 0 58),w58,0⟩,
⟨(r_buildSlice 1 3 [di] [(0,(cn 0)),(1,(cn 1)),(2,(cn 0))] 0 59),w59,0⟩,
⟨(r_mov s7 0 60),w60,0⟩,
⟨(r_call 24 [s58,(cK (.d (.sc (.string ⟨#[110,111,107]⟩)))),s59,(cn 0),(cm 0),s60] 0 61),w61,28⟩,
⟨(r_buildSlice 7 1 [(.sc (.string ⟨#[]⟩)),di,di,(.sl []),(.sl []),(.sl []),(.sl [])] [(0,s61)] 0 62),w62,60⟩,
⟨(r_append 7 128 s57 s62 0 63),w63,127⟩,
⟨(r_fieldAddr 2 s5 0 64),w64,255⟩,
⟨(r_store 1 s64 s63 0 0),wN,511⟩] 10)))))))
(.region [qMov s6 w19,
qBin bAdd .add s19 (cn 1) w20,
qMov s20 w6] 3))))))
(.seq (.region [seqO (r_load 3 true s5 0 66) w66,
seqO (r_call 26 [s66] 0 67) w67,
qMov s67 w65,
seqO (r_extract s65 0 0 68) w68,
seqO (r_extract s65 1 0 69) w69,
seqO (r_alloc [oF,oF,oF] 0 9) w9,
seqO (r_store 3 s9 s68 0 0) wN,
qMov s69 w10] 8)
(.seq (.region [seqO (r_load 3 true s9 0 70) w70,
seqO (r_store 3 s4 s70 0 0) wN] 2)
.ret))))),false⟩
def q44:QFn:=⟨2,[.t s4],
(.seq (.region [seqO (r_box s0 0 2) w2,
seqO (r_box s1 0 3) w3,
qMov cF w4] 3)
(.seq (.seq (.region [qFad 0 s2 w7,
qLd s7 w8,
qFad 0 s3 w9,
qLd s9 w10,
seqO (r_callF 86 [s8,s10] 0 11) w11,
seqO (r_un .not s11 0 12) w12,
qMov s12 w13,
gdO s13 false w14 (qFad 1 s2 w14),
gdO s13 false w15 (qLd s14 w15),
gdO s13 false w16 (seqO (r_len s15 0 16) w16),
gdO s13 false w17 (qFad 1 s3 w17),
gdO s13 false w18 (qLd s17 w18),
gdO s13 false w19 (seqO (r_len s18 0 19) w19),
gdO s13 false w20 (qBin bNeq .neq s16 s19 w20),
qPick s13 cT s20 w21,
qMov s21 w22,
gdO s22 false w23 (qFad 2 s2 w23),
gdO s22 false w24 (qLd s23 w24),
gdO s22 false w25 (seqO (r_len s24 0 25) w25),
gdO s22 false w26 (qFad 2 s3 w26),
gdO s22 false w27 (qLd s26 w27),
gdO s22 false w28 (seqO (r_len s27 0 28) w28),
gdO s22 false w29 (qBin bNeq .neq s25 s28 w29),
qPick s22 cT s29 w30] 24)
(.cond s30 (.seq (.region [qMov cF w4] 1)
.ret)
.skip))
(.seq (.seq (.region [qMov (cn 0) w5] 1)
(.block 0 (.loop (.seq (.seq (.region [qMov s5 w31,
qFad 1 s2 w32,
qLd s32 w33,
seqO (r_len s33 0 34) w34,
qBin bLss .lss s31 s34 w35] 5)
(.cond s35 .skip
(.exit 0)))
(.seq (.block 1 (.seq (.draw [⟨(r_fieldAddr 1 s2 0 38),w38,0⟩,
⟨(r_load 1 false s38 0 39),w39,1⟩,
⟨(r_mov s5 0 40),w40,0⟩,
⟨(r_indexAddr 1 s39 s40 0 41),w41,7⟩,
⟨(r_load 1 false s41 0 42),w42,15⟩,
⟨(r_fieldAddr 1 s3 0 43),w43,0⟩,
⟨(r_load 1 false s43 0 44),w44,32⟩,
⟨(r_mov s5 0 45),w45,0⟩,
⟨(r_indexAddr 1 s44 s45 0 46),w46,224⟩,
⟨(r_load 1 false s46 0 47),w47,480⟩,
⟨(r_bin .neq s42 s47 0 48),w48,1023⟩] 11)
(.cond s48 (.seq (.region [qMov cF w4] 1)
.ret)
.skip)))
(.region [qMov s5 w36,
qBin bAdd .add s36 (cn 1) w37,
qMov s37 w5] 3))))))
(.seq (.seq (.region [qMov (cn 0) w6] 1)
(.block 2 (.loop (.seq (.seq (.region [qMov s6 w49,
qFad 2 s2 w50,
qLd s50 w51,
seqO (r_len s51 0 52) w52,
qBin bLss .lss s49 s52 w53] 5)
(.cond s53 .skip
(.exit 2)))
(.seq (.block 3 (.seq (.draw [⟨(r_fieldAddr 2 s2 0 56),w56,0⟩,
⟨(r_load 1 false s56 0 57),w57,1⟩,
⟨(r_mov s6 0 58),w58,0⟩,
⟨(r_indexAddr 7 s57 s58 0 59),w59,7⟩,
⟨(r_load 7 true s59 0 60),w60,15⟩,
⟨(r_fieldAddr 2 s3 0 61),w61,0⟩,
⟨(r_load 1 false s61 0 62),w62,32⟩,
⟨(r_mov s6 0 63),w63,0⟩,
⟨(r_indexAddr 7 s62 s63 0 64),w64,224⟩,
⟨(r_load 7 true s64 0 65),w65,480⟩,
⟨(r_callF 87 [s60,s65] 0 66),w66,1023⟩,
⟨(r_un .not s66 0 67),w67,2047⟩] 12)
(.cond s67 (.seq (.region [qMov cF w4] 1)
.ret)
.skip)))
(.region [qMov s6 w54,
qBin bAdd .add s54 (cn 1) w55,
qMov s55 w6] 3))))))
(.seq (.region [qMov cT w4] 1)
.ret))))),false⟩
def q45:QFn:=⟨2,[.t s4],
(.seq (.region [seqO (r_box s0 0 2) w2,
seqO (r_box s1 0 3) w3,
qMov cF w4] 3)
(.seq (.region [qFad 0 s2 w5,
qLd s5 w6,
qFad 0 s3 w7,
qLd s7 w8,
qBin bEql .eql s6 s8 w9,
qMov s9 w10,
gdO s10 true w11 (qFad 1 s2 w11),
gdO s10 true w12 (qLd s11 w12),
gdO s10 true w13 (seqO (r_b2s s12 0 13) w13),
gdO s10 true w14 (qFad 1 s3 w14),
gdO s10 true w15 (qLd s14 w15),
gdO s10 true w16 (seqO (r_b2s s15 0 16) w16),
gdO s10 true w17 (qBin bEql .eql s13 s16 w17),
qPick s10 s17 cF w18,
qMov s18 w4] 15)
.ret)),false⟩
def q46:QFn:=⟨2,[.t s4],
(.seq (.region [qMov cF w4] 1)
(.seq (.seq (.region [qMov s0 w6,
seqO (r_len s6 0 7) w7,
qMov s1 w8,
seqO (r_len s8 0 9) w9,
qBin bNeq .neq s7 s9 w10] 5)
(.cond s10 (.seq (.region [qMov cF w4] 1)
.ret)
.skip))
(.seq (.seq (.region [qMov (cn 0) w5] 1)
(.block 0 (.loop (.seq (.seq (.region [qMov s5 w11,
qMov s0 w12,
seqO (r_len s12 0 13) w13,
qBin bLss .lss s11 s13 w14] 4)
(.cond s14 .skip
(.exit 0)))
(.seq (.block 1 (.seq (.draw [⟨(r_mov s0 0 17),w17,0⟩,
⟨(r_mov s5 0 18),w18,0⟩,
⟨(r_indexAddr 6 s17 s18 0 19),w19,3⟩,
⟨(r_load 6 true s19 0 20),w20,7⟩,
⟨(r_mov s1 0 21),w21,0⟩,
⟨(r_mov s5 0 22),w22,0⟩,
⟨(r_indexAddr 6 s21 s22 0 23),w23,48⟩,
⟨(r_load 6 true s23 0 24),w24,112⟩,
⟨(r_eqA true 6 [(0,1),(1,1),(2,1),(3,1),(4,1),(5,1)] s20 s24 0 25),w25,255⟩] 9)
(.cond s25 (.seq (.region [qMov cF w4] 1)
.ret)
.skip)))
(.region [qMov s5 w15,
qBin bAdd .add s15 (cn 1) w16,
qMov s16 w5] 3))))))
(.seq (.region [qMov cT w4] 1)
.ret)))),false⟩
def q47:QFn:=⟨4,[],
(.seq (.region [seqO (r_box s0 0 4) w4] 1)
(.seq (.region [qMov (cn 0) w8] 1)
(.block 0 (.loop (.seq (.seq (.region [qMov s8 w9,
qMov s2 w10,
qBin bLss .lss s9 s10 w11] 3)
(.cond s11 .skip
(.exit 0)))
(.seq (.block 1 (.seq (.region [qFad 1 s4 w14,
qLd s14 w15,
qMov s1 w16,
qFad 0 s4 w17,
qLd s17 w18,
qBin bSub .sub s16 s18 w19,
qMov s8 w20,
seqO (r_conv .u64 s20 0 21) w21,
qBin bAdd .add s19 s21 w22,
qMov s3 w23,
qBin (bGen .rem) .rem s23 (cu 256) w24,
seqO (r_conv .u8 s24 0 25) w25,
seqO (r_indexAddr 1 s15 s22 0 26) w26,
seqO (r_store 1 s26 s25 0 0) wN] 14)
(.region [qMov s3 w27,
qBin (bGen .quo) .quo s27 (cu 256) w28,
qMov s28 w3] 3)))
(.region [qMov s8 w12,
qBin bAdd .add s12 (cn 1) w13,
qMov s13 w8] 3))))))),true⟩
def q48:QFn:=⟨0,[.cell s0 2 true],
(.seq (.region [seqO (r_alloc [u0,oF] 0 0) w0] 1)
(.seq (.region [seqO (r_build [u0,oF] [(0,1,(cu 65536))] 0 1) w1,
seqO (r_store 2 s0 s1 0 0) wN] 2)
.ret)),false⟩
def q49:QFn:=⟨3,[.cell s6 2 true,.t s7,.t s8],
(.seq (.region [seqO (r_box s0 0 3) w3,
seqO (r_alloc [u0,oF] 0 6) w6,
qMov (cu 0) w7,
qMov (cn 0) w8] 4)
(.seq (.region [seqO (r_load 2 true s3 0 14) w14,
qMov s1 w15,
seqO (r_len s15 0 16) w16,
qMov s2 w17,
seqO (r_call 88 [s14,s16,s17] 65538 18) w18,
qMov s18 w13,
seqO (r_extract s13 0 0 19) w19,
seqO (r_extract s13 1 0 20) w20,
seqO (r_extract s13 2 0 21) w21,
seqO (r_alloc [u0,oF] 0 9) w9,
seqO (r_store 2 s9 s19 0 0) wN,
qMov s20 w10,
qMov s21 w11] 13)
(.seq (.seq (.region [qMov s11 w22,
qBin bNeq .neq s22 (cn 0) w23] 2)
(.cond s23 (.seq (.region [seqO (r_build [u0,oF] [] 0 24) w24,
qMov s11 w25,
seqO (r_store 2 s6 s24 0 0) wN,
qMov (cu 0) w7,
qMov s25 w8] 5)
.ret)
.skip))
(.seq (.seq (.region [qMov (cn 0) w12] 1)
(.block 0 (.loop (.seq (.seq (.region [qMov s12 w26,
qMov s1 w27,
seqO (r_len s27 0 28) w28,
qBin bLss .lss s26 s28 w29] 4)
(.cond s29 .skip
(.exit 0)))
(.seq (.block 1 (.draw [⟨(r_fieldAddr 1 s9 0 32),w32,0⟩,
⟨(r_load 1 false s32 0 33),w33,1⟩,
⟨(r_fieldAddr 1 s3 0 34),w34,0⟩,
⟨(r_load 1 false s34 0 35),w35,4⟩,
⟨(r_len s35 0 36),w36,12⟩,
⟨(r_mov s12 0 37),w37,0⟩,
⟨(r_bin .add s36 s37 0 38),w38,60⟩,
⟨(r_mov s1 0 39),w39,0⟩,
⟨(r_mov s12 0 40),w40,0⟩,
⟨(r_indexAddr 1 s39 s40 0 41),w41,384⟩,
⟨(r_load 1 false s41 0 42),w42,896⟩,
⟨(r_indexAddr 1 s33 s38 0 43),w43,2047⟩,
⟨(r_store 1 s43 s42 0 0),wN,4095⟩] 13))
(.region [qMov s12 w30,
qBin bAdd .add s30 (cn 1) w31,
qMov s31 w12] 3))))))
(.seq (.region [seqO (r_load 2 true s9 0 44) w44,
qMov s10 w45,
seqO (r_store 2 s6 s44 0 0) wN,
qMov s45 w7,
qMov (cn 0) w8] 5)
.ret))))),false⟩
def q50:QFn:=⟨2,[.t s4,.t s5],
(.seq (.region [seqO (r_box s0 0 2) w2,
qMov (cK oF) w4,
qMov (cn 0) w5] 3)
(.seq (.draw [⟨(r_fieldAddr 0 s2 0 12),w12,0⟩,
⟨(r_load 1 false s12 0 13),w13,1⟩,
⟨(r_fieldAddr 2 s2 0 14),w14,0⟩,
⟨(r_load 1 false s14 0 15),w15,4⟩,
⟨(r_mov s1 0 16),w16,0⟩,
⟨(r_indexAddr 7 s15 s16 0 17),w17,28⟩,
⟨(r_fieldAddr 3 s17 0 18),w18,60⟩,
⟨(r_load 1 false s18 0 19),w19,124⟩,
⟨(r_call 89 [s13,s19] 0 20),w20,255⟩,
⟨(r_mov s20 0 11),w11,511⟩,
⟨(r_extract s11 0 0 21),w21,1023⟩,
⟨(r_extract s11 1 0 22),w22,1023⟩,
⟨(r_extract s11 2 0 23),w23,1023⟩,
⟨(r_mov s21 0 6),w6,2047⟩,
⟨(r_mov s22 0 7),w7,12287⟩,
⟨(r_mov s23 0 8),w8,32767⟩] 16)
(.seq (.region [qMov s6 w24,
seqO (r_len s24 0 25) w25,
seqO (r_makeSlice 1 8 [di] s25 s25 1 26) w26,
qMov s26 w9] 4)
(.seq (.seq (.region [qMov (cn 0) w10] 1)
(.block 0 (.loop (.seq (.seq (.region [qMov s10 w27,
qMov s6 w28,
seqO (r_len s28 0 29) w29,
qBin bLss .lss s27 s29 w30] 4)
(.cond s30 .skip
(.exit 0)))
(.seq (.block 1 (.region [qMov s9 w33,
qMov s10 w34,
qMov s6 w35,
qMov s10 w36,
seqO (r_indexAddr 1 s35 s36 0 37) w37,
qLd s37 w38,
qBin bAdd .add (cn 24) s38 w39,
seqO (r_indexAddr 1 s33 s34 0 40) w40,
seqO (r_store 1 s40 s39 0 0) wN] 9))
(.region [qMov s10 w31,
qBin bAdd .add s31 (cn 1) w32,
qMov s32 w10] 3))))))
(.seq (.region [qMov s9 w41,
qMov s7 w42,
seqO (r_callF 52 [s42] 0 43) w43,
qBin bAdd .add (cn 24) s43 w44,
qMov s41 w4,
qMov s44 w5] 6)
.ret))))),false⟩
def q52:QFn:=⟨1,[.t s2],
(.seq (.region [qMov (cn 0) w2] 1)
(.seq (.region [qMov s0 w3,
seqO (r_callF 91 [s3,(cn 8)] 0 4) w4,
qMov s4 w2] 3)
.ret)),false⟩
def q53:QFn:=⟨1,[.t s2],
(.seq (.region [qMov (cK oF) w2] 1)
(.seq (.region [qMov (cK oF) w3] 1)
(.seq (.seq (.region [qMov (cn 0) w4] 1)
(.block 0 (.loop (.seq (.seq (.region [qMov s4 w6,
qMov s0 w7,
seqO (r_len s7 0 8) w8,
qBin bLss .lss s6 s8 w9] 4)
(.cond s9 .skip
(.exit 0)))
(.seq (.block 1 (.seq (.region [qMov s0 w12,
qMov s4 w13,
seqO (r_indexAddr 4 s12 s13 0 14) w14,
seqO (r_load 4 true s14 0 15) w15,
seqO (r_alloc [b0,i0,i0,oF] 0 5) w5,
seqO (r_store 4 s5 s15 0 0) wN] 6)
(.seq (.region [seqO (r_buildSlice 2 0 [(.sc (.string ⟨#[]⟩)),di] [] 0 16) w16,
qMov s0 w17,
qMov s4 w18,
seqO (r_indexAddr 4 s17 s18 0 19) w19,
qFad 3 s19 w20,
qLd s20 w21,
seqO (r_append 2 24 s16 s21 0 22) w22,
qFad 3 s5 w23,
seqO (r_store 1 s23 s22 0 0) wN] 9)
(.region [qMov s3 w24,
seqO (r_load 4 true s5 0 25) w25,
seqO (r_buildSlice 4 1 [db,di,di,(.sl [])] [(0,s25)] 0 26) w26,
seqO (r_append 4 48 s24 s26 0 27) w27,
qMov s27 w3] 5))))
(.region [qMov s4 w10,
qBin bAdd .add s10 (cn 1) w11,
qMov s11 w4] 3))))))
(.seq (.region [qMov s3 w28,
qMov s28 w2] 2)
.ret)))),false⟩
def q54:QFn:=⟨1,[.t s2],
(.seq (.region [qMov (cK oF) w2] 1)
(.seq (.region [qMov (cK oF) w3] 1)
(.seq (.seq (.region [qMov (cn 0) w4] 1)
(.block 0 (.loop (.seq (.seq (.region [qMov s4 w5,
qMov s0 w6,
seqO (r_len s6 0 7) w7,
qBin bLss .lss s5 s7 w8] 4)
(.cond s8 .skip
(.exit 0)))
(.seq (.block 1 (.seq (.draw [⟨(r_mov s4 0 11),w11,0⟩,
⟨(r_bin .eql s11 (cn 0) 0 12),w12,1⟩,
⟨(r_mov s12 0 13),w13,3⟩,
⟨gdR s13 false (r_mov s0 0 14),w14,7⟩,
⟨gdR s13 false (r_mov s4 0 15),w15,7⟩,
⟨gdR s13 false (r_indexAddr 1 s14 s15 0 16),w16,31⟩,
⟨gdR s13 false (r_load 1 false s16 0 17),w17,63⟩,
⟨gdR s13 false (r_mov s0 0 18),w18,7⟩,
⟨gdR s13 false (r_mov s4 0 19),w19,7⟩,
⟨gdR s13 false (r_bin .sub s19 (cn 1) 0 20),w20,263⟩,
⟨gdR s13 false (r_indexAddr 1 s18 s20 0 21),w21,903⟩,
⟨gdR s13 false (r_load 1 false s21 0 22),w22,1927⟩,
⟨gdR s13 false (r_bin .neq s17 s22 0 23),w23,4095⟩,
⟨(r_pick s13 cT s23 0 24),w24,8191⟩] 14)
(.cond s24 (.region [qMov s3 w25,
qMov s4 w26,
qMov s0 w27,
qMov s4 w28,
seqO (r_indexAddr 1 s27 s28 0 29) w29,
qLd s29 w30,
seqO (r_build [i0,u0] [(0,1,s26),(1,1,s30)] 0 31) w31,
seqO (r_buildSlice 2 1 [di,du] [(0,s31)] 0 32) w32,
seqO (r_append 2 16 s25 s32 0 33) w33,
qMov s33 w3] 10)
.skip)))
(.region [qMov s4 w9,
qBin bAdd .add s9 (cn 1) w10,
qMov s10 w4] 3))))))
(.seq (.region [qMov s3 w34,
qMov s34 w2] 2)
.ret)))),false⟩
def q55:QFn:=⟨1,[.t s2],
(.seq (.region [seqO (r_box s0 0 1) w1,
qMov (cn 0) w2] 2)
(.seq (.seq (.region [seqO (r_load 3 true s1 0 3) w3,
seqO (r_callF 92 [s3] 0 4) w4,
seqO (r_un .not s4 0 5) w5] 3)
(.cond s5 (.seq (.region [qMov (cn 8) w2] 1)
.ret)
.skip))
(.seq (.seq (.region [seqO (r_load 3 true s1 0 6) w6,
seqO (r_call 93 [s6] 0 7) w7,
seqO (r_len s7 0 8) w8,
qBin bGtr .gtr s8 (cn 20000) w9] 4)
(.cond s9 (.seq (.region [qMov (cn 4) w2] 1)
.ret)
.skip))
(.seq (.region [qMov (cn 0) w2] 1)
.ret)))),false⟩
def q56:QFn:=⟨2,[.t s4,.t s5],
(.seq (.region [seqO (r_box s0 0 2) w2,
qMov (cn 0) w4,
qMov (cn 0) w5] 3)
(.seq (.region [qFad 2 s2 w18,
qLd s18 w19,
qMov s1 w20,
seqO (r_indexAddr 7 s19 s20 0 21) w21,
seqO (r_load 7 true s21 0 22) w22,
seqO (r_alloc [(.d (.sc (.string ⟨#[]⟩))),i0,i0,oF,oF,oF,oF] 0 6) w6,
seqO (r_store 7 s6 s22 0 0) wN] 7)
(.seq (.seq (.region [qFad 4 s6 w23,
qLd s23 w24,
seqO (r_callF 94 [s24] 0 25) w25,
qBin bNeq .neq s25 (cn 0) w26] 4)
(.cond s26 (.seq (.region [qMov (cm 0) w4,
qMov (cn 12) w5] 2)
.ret)
.skip))
(.seq (.seq (.region [qMov s1 w27,
qBin bEql .eql s27 (cn 0) w28,
qMov s28 w29,
gdO s29 true w30 (qFad 1 s6 w30),
gdO s29 true w31 (qLd s30 w31),
gdO s29 true w32 (qBin bNeq .neq s31 (cn 0) w32),
gdO s29 true w33 (qMov s32 w33),
gdO s33 false w34 (qFad 2 s6 w34),
gdO s33 false w35 (qLd s34 w35),
gdO s33 false w36 (qBin bNeq .neq s35 (cm 0) w36),
gdO s29 true w37 (qPick s33 cT s36 w37),
qPick s29 s37 cF w38] 12)
(.cond s38 (.seq (.region [qMov (cm 0) w4,
qMov (cn 30) w5] 2)
.ret)
.skip))
(.seq (.draw [⟨(r_fieldAddr 4 s6 0 39),w39,0⟩,
⟨(r_load 1 false s39 0 40),w40,1⟩,
⟨(r_call 95 [s40] 0 41),w41,3⟩,
⟨(r_fieldAddr 4 s6 0 42),w42,0⟩,
⟨(r_load 1 false s42 0 43),w43,8⟩,
⟨(r_len s43 0 44),w44,24⟩,
⟨(r_bin .sub s44 (cn 1) 0 45),w45,56⟩,
⟨(r_mov s41 0 7),w7,7⟩,
⟨(r_mov s45 0 8),w8,255⟩] 9)
(.seq (.seq (.region [qMov (cn 0) w9] 1)
(.block 0 (.loop (.seq (.seq (.region [qMov s9 w46,
qFad 4 s6 w47,
qLd s47 w48,
seqO (r_len s48 0 49) w49,
qBin bLss .lss s46 s49 w50] 5)
(.cond s50 .skip
(.exit 0)))
(.seq (.block 1 (.seq (.draw [⟨(r_load 3 true s2 0 53),w53,0⟩,
⟨(r_mov s1 0 54),w54,0⟩,
⟨(r_mov s9 0 55),w55,0⟩,
⟨(r_mov s7 0 56),w56,0⟩,
⟨(r_mov s9 0 57),w57,0⟩,
⟨(r_indexAddr 1 s56 s57 0 58),w58,24⟩,
⟨(r_load 1 false s58 0 59),w59,56⟩,
⟨(r_mov s59 0 60),w60,120⟩,
⟨gdR s60 false (r_mov s9 0 61),w61,248⟩,
⟨gdR s60 false (r_mov s8 0 62),w62,248⟩,
⟨gdR s60 false (r_bin .eql s61 s62 0 63),w63,1016⟩,
⟨(r_pick s60 cT s63 0 64),w64,2040⟩,
⟨(r_callF 96 [s53,s54,s55,s64] 0 65),w65,4095⟩,
⟨(r_mov s65 0 10),w10,8191⟩] 14)
(.seq (.region [qMov s10 w66,
qBin bNeq .neq s66 (cn 0) w67] 2)
(.cond s67 (.seq (.region [qMov s9 w68,
qMov s10 w69,
qMov s68 w4,
qMov s69 w5] 4)
.ret)
.skip))))
(.region [qMov s9 w51,
qBin bAdd .add s51 (cn 1) w52,
qMov s52 w9] 3))))))
(.seq (.seq (.region [seqO (r_load 3 true s2 0 71) w71,
qMov s1 w72,
seqO (r_call 97 [s71,s72] 0 73) w73,
qMov s73 w70,
seqO (r_extract s70 0 0 74) w74,
seqO (r_extract s70 1 0 75) w75,
qMov s74 w11,
qMov s75 w12] 8)
(.seq (.region [qMov s12 w76,
seqO (r_un .not s76 0 77) w77] 2)
(.cond s77 (.seq (.region [qMov (cm 0) w4,
qMov (cn 36) w5] 2)
.ret)
.skip)))
(.seq (.region [qFad 4 s6 w78,
qLd s78 w79,
qFad 1 s6 w80,
qLd s80 w81,
qFad 3 s6 w82,
qLd s82 w83,
seqO (r_len s83 0 84) w84,
seqO (r_call 98 [s79,s81,s84] 0 85) w85,
qMov s85 w13] 9)
(.seq (.seq (.region [qMov (cn 0) w14] 1)
(.block 2 (.loop (.seq (.seq (.region [qMov s14 w86,
qFad 4 s6 w87,
qLd s87 w88,
seqO (r_len s88 0 89) w89,
qBin bLss .lss s86 s89 w90] 5)
(.cond s90 .skip
(.exit 2)))
(.seq (.block 3 (.seq (.region [qFad 4 s6 w94,
qLd s94 w95,
qMov s14 w96,
seqO (r_indexAddr 4 s95 s96 0 97) w97,
seqO (r_load 4 true s97 0 98) w98,
seqO (r_call 99 [s98] 0 99) w99,
qMov s99 w93,
seqO (r_extract s93 0 0 100) w100,
seqO (r_extract s93 1 0 101) w101,
qMov s100 w15,
qMov s101 w16] 11)
(.seq (.region [qMov (cn 0) w17] 1)
(.block 4 (.loop (.seq (.seq (.region [qMov s17 w102,
qMov s15 w103,
seqO (r_len s103 0 104) w104,
qBin bLss .lss s102 s104 w105] 4)
(.cond s105 .skip
(.exit 4)))
(.seq (.block 5 (.seq (.draw [⟨(r_mov s13 0 108),w108,0⟩,
⟨(r_mov s14 0 109),w109,0⟩,
⟨(r_indexAddr 1 s108 s109 0 110),w110,3⟩,
⟨(r_load 1 false s110 0 111),w111,7⟩,
⟨(r_mov s15 0 112),w112,0⟩,
⟨(r_mov s17 0 113),w113,0⟩,
⟨(r_indexAddr 1 s112 s113 0 114),w114,48⟩,
⟨(r_load 1 false s114 0 115),w115,112⟩,
⟨(r_bin .shr s111 s115 0 116),w116,255⟩,
⟨(r_bin .rem s116 (cu 2) 0 117),w117,511⟩,
⟨(r_bin .eql s117 (cu 0) 0 118),w118,1023⟩] 11)
(.cond s118 (.seq (.region [qMov s14 w119,
qMov s119 w4,
qMov (cn 38) w5] 3)
.ret)
.skip)))
(.region [qMov s17 w106,
qBin bAdd .add s106 (cn 1) w107,
qMov s107 w17] 3))))))))
(.region [qMov s14 w91,
qBin bAdd .add s91 (cn 1) w92,
qMov s92 w14] 3))))))
(.seq (.region [qMov (cn 0) w4,
qMov (cn 0) w5] 2)
.ret)))))))))),false⟩
def q57:QFn:=⟨2,[.cell s4 7 true],
(.seq (.region [seqO (r_box s0 0 2) w2,
seqO (r_alloc [(.d (.sc (.string ⟨#[]⟩))),i0,i0,oF,oF,oF,oF] 0 4) w4] 2)
(.seq (.region [seqO (r_load 3 true s2 0 10) w10,
seqO (r_call 19 [s10] 0 11) w11,
seqO (r_field 2 1 false s11 0 12) w12,
qMov s1 w13,
seqO (r_indexAddr 7 s12 s13 0 14) w14,
seqO (r_load 7 true s14 0 15) w15,
seqO (r_alloc [(.d (.sc (.string ⟨#[]⟩))),i0,i0,oF,oF,oF,oF] 0 5) w5,
seqO (r_store 7 s5 s15 0 0) wN] 8)
(.seq (.region [seqO (r_load 3 true s2 0 17) w17,
qMov s1 w18,
seqO (r_call 97 [s17,s18] 0 19) w19,
qMov s19 w16,
seqO (r_extract s16 0 0 20) w20,
seqO (r_extract s16 1 0 21) w21,
qMov s20 w6,
qMov s21 w7] 8)
(.seq (.region [qMov (cK oF) w8] 1)
(.seq (.seq (.region [qMov (cn 0) w9] 1)
(.block 0 (.loop (.seq (.seq (.region [qMov s9 w22,
qMov s6 w23,
seqO (r_len s23 0 24) w24,
qBin bLss .lss s22 s24 w25] 4)
(.cond s25 .skip
(.exit 0)))
(.seq (.block 1 (.draw [⟨(r_mov s8 0 28),w28,0⟩,
⟨(r_load 3 true s2 0 29),w29,0⟩,
⟨(r_mov s6 0 30),w30,0⟩,
⟨(r_mov s9 0 31),w31,0⟩,
⟨(r_indexAddr 1 s30 s31 0 32),w32,12⟩,
⟨(r_load 1 false s32 0 33),w33,28⟩,
⟨(r_callF 100 [s29,s33] 0 34),w34,62⟩,
⟨(r_conv .u64 s34 0 35),w35,126⟩,
⟨(r_buildSlice 1 1 [du] [(0,s35)] 0 36),w36,254⟩,
⟨(r_append 1 8 s28 s36 0 37),w37,511⟩,
⟨(r_mov s37 0 8),w8,1023⟩] 11))
(.region [qMov s9 w26,
qBin bAdd .add s26 (cn 1) w27,
qMov s27 w9] 3))))))
(.seq (.region [qMov s8 w38,
seqO (r_call 54 [s38] 0 39) w39,
qFad 5 s5 w40,
seqO (r_store 1 s40 s39 0 0) wN] 4)
(.seq (.region [qFad 4 s5 w41,
qLd s41 w42,
qFad 1 s5 w43,
qLd s43 w44,
qFad 3 s5 w45,
qLd s45 w46,
seqO (r_len s46 0 47) w47,
seqO (r_call 98 [s42,s44,s47] 0 48) w48,
seqO (r_call 54 [s48] 0 49) w49,
qFad 6 s5 w50,
seqO (r_store 1 s50 s49 0 0) wN] 11)
(.seq (.region [seqO (r_load 7 true s5 0 51) w51,
seqO (r_store 7 s4 s51 0 0) wN] 2)
.ret)))))))),false⟩
def q58:QFn:=⟨1,[.t s2],
(.seq (.region [seqO (r_box s0 0 1) w1,
qMov (cn 0) w2] 2)
(.seq (.seq (.region [qFad 0 s1 w13,
seqO (r_load 3 true s13 0 14) w14,
seqO (r_callF 101 [s14] 0 15) w15,
qBin bNeq .neq s15 (cn 0) w16,
qMov s16 w17,
gdO s17 false w18 (qFad 3 s1 w18),
gdO s17 false w19 (seqO (r_load 4 true s18 0 19) w19),
gdO s17 false w20 (seqO (r_build [oF,i0,i0,i0,i0] [(1,4,s19)] 0 20) w20),
gdO s17 false w21 (seqO (r_callF 102 [s20] 0 21) w21),
gdO s17 false w22 (qBin bNeq .neq s21 (cn 0) w22),
qPick s17 cT s22 w23,
qMov s23 w24,
gdO s24 false w25 (qFad 11 s1 w25),
gdO s24 false w26 (qLd s25 w26),
gdO s24 false w27 (qBin bLss .lss s26 (cn 0) w27),
qPick s24 cT s27 w28,
qMov s28 w29,
gdO s29 false w30 (qFad 11 s1 w30),
gdO s29 false w31 (qLd s30 w31),
gdO s29 false w32 (qFad 3 s1 w32),
gdO s29 false w33 (qFad 0 s32 w33),
gdO s29 false w34 (qLd s33 w34),
gdO s29 false w35 (qBin bGtr .gtr s31 s34 w35),
qPick s29 cT s35 w36] 24)
(.cond s36 (.seq (.region [qMov (cn 8) w2] 1)
.ret)
.skip))
(.seq (.seq (.region [qFad 7 s1 w38,
seqO (r_load 2 true s38 0 39) w39,
seqO (r_callF 76 [s39,(cn 0)] 0 40) w40,
qMov s40 w37,
seqO (r_extract s37 0 0 41) w41,
seqO (r_extract s37 1 0 42) w42,
qMov s41 w3,
qMov s42 w4] 8)
(.seq (.region [qMov s4 w43,
qBin bNeq .neq s43 (cn 0) w44,
qMov s44 w45,
gdO s45 false w46 (qFad 7 s1 w46),
gdO s45 false w47 (qFad 1 s46 w47),
gdO s45 false w48 (qLd s47 w48),
gdO s45 false w49 (seqO (r_len s48 0 49) w49),
gdO s45 false w50 (qFad 3 s1 w50),
gdO s45 false w51 (qFad 2 s50 w51),
gdO s45 false w52 (qLd s51 w52),
gdO s45 false w53 (qBin bGtr .gtr s49 s52 w53),
qPick s45 cT s53 w54] 12)
(.cond s54 (.seq (.region [qMov (cn 8) w2] 1)
.ret)
.skip)))
(.seq (.seq (.region [qFad 10 s1 w55,
qLd s55 w56,
seqO (r_callF 103 [s56] 0 57) w57,
qBin bNeq .neq s57 (cn 0) w58,
qMov s58 w59,
gdO s59 false w60 (qFad 10 s1 w60),
gdO s59 false w61 (qLd s60 w61),
gdO s59 false w62 (seqO (r_len s61 0 62) w62),
gdO s59 false w63 (qFad 3 s1 w63),
gdO s59 false w64 (qFad 3 s63 w64),
gdO s59 false w65 (qLd s64 w65),
gdO s59 false w66 (qBin bGtr .gtr s62 s65 w66),
qPick s59 cT s66 w67,
qMov s67 w68,
gdO s68 false w69 (qFad 9 s1 w69),
gdO s68 false w70 (qLd s69 w70),
gdO s68 false w71 (seqO (r_len s70 0 71) w71),
gdO s68 false w72 (qFad 10 s1 w72),
gdO s68 false w73 (qLd s72 w73),
gdO s68 false w74 (seqO (r_len s73 0 74) w74),
gdO s68 false w75 (qBin bNeq .neq s71 s74 w75),
qPick s68 cT s75 w76] 22)
(.cond s76 (.seq (.region [qMov (cn 8) w2] 1)
.ret)
.skip))
(.seq (.region [qFad 0 s1 w78,
qFad 1 s78 w79,
qLd s79 w80,
qFad 3 s1 w81,
qFad 2 s81 w82,
qLd s82 w83,
seqO (r_call 104 [s80,s83] 0 84) w84,
qMov s84 w77,
seqO (r_extract s77 0 0 85) w85,
seqO (r_extract s77 1 0 86) w86,
seqO (r_extract s77 2 0 87) w87,
seqO (r_alloc [u0,oF] 0 5) w5,
seqO (r_store 2 s5 s85 0 0) wN,
qMov s86 w6,
qMov s87 w7] 15)
(.seq (.seq (.region [qMov s7 w88,
qBin bNeq .neq s88 (cn 0) w89,
qMov s89 w90,
gdO s90 false w91 (qFad 7 s1 w91),
gdO s90 false w92 (qFad 1 s91 w92),
gdO s90 false w93 (qLd s92 w93),
gdO s90 false w94 (qFad 1 s5 w94),
gdO s90 false w95 (qLd s94 w95),
gdO s90 false w96 (seqO (r_callF 105 [s93,s95] 0 96) w96),
gdO s90 false w97 (seqO (r_un .not s96 0 97) w97),
qPick s90 cT s97 w98] 11)
(.cond s98 (.seq (.region [qMov (cn 8) w2] 1)
.ret)
.skip))
(.seq (.seq (.region [qFad 9 s1 w99,
qLd s99 w100,
seqO (r_len s100 0 101) w101,
qMov (cn 0) w102] 4)
(.block 0 (.loop (.seq (.region [qBin bLss .lss s102 s101 w103] 1)
(.seq (.cond s103 .skip
(.exit 0))
(.seq (.block 1 (.seq (.region [qMov s102 w104,
seqO (r_indexAddr 2 s100 s102 0 105) w105,
seqO (r_load 2 true s105 0 106) w106,
seqO (r_alloc [u0,oF] 0 9) w9,
qMov s104 w8,
seqO (r_store 2 s9 s106 0 0) wN] 6)
(.seq (.region [qFad 10 s1 w107,
qLd s107 w108,
qMov s8 w109,
seqO (r_indexAddr 6 s108 s109 0 110) w110,
seqO (r_load 6 true s110 0 111) w111,
seqO (r_alloc [b0,u0,u0,u0,u0,i0] 0 10) w10,
seqO (r_store 6 s10 s111 0 0) wN] 7)
(.seq (.seq (.region [qFad 0 s9 w112,
qLd s112 w113,
qMov s8 w114,
qBin bAdd .add s114 (cn 1) w115,
seqO (r_conv .u64 s115 0 116) w116,
qBin (bGen .mul) .mul (cu 16777216) s116 w117,
qBin bNeq .neq s113 s117 w118,
qMov s118 w119,
gdO s119 false w120 (qFad 0 s9 w120),
gdO s119 false w121 (qLd s120 w121),
gdO s119 false w122 (qFad 1 s9 w122),
gdO s119 false w123 (qLd s122 w123),
gdO s119 false w124 (seqO (r_len s123 0 124) w124),
gdO s119 false w125 (seqO (r_conv .u64 s124 0 125) w125),
gdO s119 false w126 (qBin bAdd .add s121 s125 w126),
gdO s119 false w127 (qFad 2 s10 w127),
gdO s119 false w128 (qLd s127 w128),
gdO s119 false w129 (qBin bNeq .neq s126 s128 w129),
qPick s119 cT s129 w130,
qMov s130 w131,
gdO s131 false w132 (qFad 1 s9 w132),
gdO s131 false w133 (qLd s132 w133),
gdO s131 false w134 (seqO (r_len s133 0 134) w134),
gdO s131 false w135 (qFad 3 s1 w135),
gdO s131 false w136 (qFad 1 s135 w136),
gdO s131 false w137 (qLd s136 w137),
gdO s131 false w138 (qBin bGtr .gtr s134 s137 w138),
qPick s131 cT s138 w139,
qMov s139 w140,
gdO s140 false w141 (qFad 1 s9 w141),
gdO s140 false w142 (qLd s141 w142),
gdO s140 false w143 (seqO (r_len s142 0 143) w143),
gdO s140 false w144 (qBin (bGen .rem) .rem s143 (cn 8) w144),
gdO s140 false w145 (qBin bNeq .neq s144 (cn 0) w145),
qPick s140 cT s145 w146] 35)
(.cond s146 (.seq (.region [qMov (cn 8) w2] 1)
.ret)
.skip))
(.seq (.seq (.region [qFad 0 s10 w147,
qLd s147 w148,
qBin bEql .eql s148 (cb 3) w149] 3)
(.cond s149 (.exit 1)
.skip))
(.seq (.region [seqO (r_load 2 true s9 0 151) w151,
qFad 0 s1 w152,
seqO (r_load 3 true s152 0 153) w153,
qFad 1 s10 w154,
qLd s154 w155,
seqO (r_call 59 [s151,s153,s155] 0 156) w156,
qMov s156 w150,
seqO (r_extract s150 0 0 157) w157,
seqO (r_extract s150 1 0 158) w158,
qMov s157 w11,
qMov s158 w12] 11)
(.seq (.region [qMov s12 w159,
qBin bNeq .neq s159 (cn 0) w160] 2)
(.cond s160 (.seq (.region [qMov (cn 8) w2] 1)
.ret)
.skip))))))))
(.region [qBin bAdd .add s102 (cn 1) w161,
qMov s161 w102] 2)))))))
(.seq (.region [qMov (cn 0) w2] 1)
.ret)))))))),false⟩
def q59:QFn:=⟨3,[.t s6,.t s7],
(.seq (.region [seqO (r_box s0 0 3) w3,
seqO (r_box s1 0 4) w4,
qMov (cK oF) w6,
qMov (cn 0) w7] 4)
(.seq (.seq (.region [seqO (r_load 2 true s3 0 21) w21,
seqO (r_callF 106 [s21] 0 22) w22,
qMov s22 w8] 3)
(.seq (.region [qMov s8 w23,
qBin bNeq .neq s23 (cn 0) w24] 2)
(.cond s24 (.seq (.region [qMov s8 w25,
qMov (cK oF) w6,
qMov s25 w7] 3)
.ret)
.skip)))
(.seq (.seq (.region [seqO (r_load 3 true s4 0 26) w26,
seqO (r_callF 107 [s26] 0 27) w27,
qMov s27 w9] 3)
(.seq (.region [qMov s9 w28,
qBin bNeq .neq s28 (cn 0) w29] 2)
(.cond s29 (.seq (.region [qMov s9 w30,
qMov (cK oF) w6,
qMov s30 w7] 3)
.ret)
.skip)))
(.seq (.region [qFad 1 s3 w31,
qLd s31 w32,
seqO (r_len s32 0 33) w33,
seqO (r_conv .u64 s33 0 34) w34,
qMov s34 w10,
qMov (cn 0) w11] 6)
(.seq (.region [qMov (cK oF) w12] 1)
(.block 4294967297 (.loop (.block 4294967296 (.seq (.seq (.region [seqO (r_load 3 true s4 0 36) w36,
qMov s2 w37,
seqO (r_callF 108 [s36,s37] 0 38) w38,
qMov s38 w35,
seqO (r_extract s35 0 0 39) w39,
seqO (r_extract s35 1 0 40) w40,
seqO (r_extract s35 2 0 41) w41,
qMov s39 w13,
qMov s40 w14,
qMov s41 w15] 10)
(.seq (.seq (.region [qMov s15 w42,
qBin bNeq .neq s42 (cn 0) w43] 2)
(.cond s43 (.seq (.region [qMov s15 w44,
qMov (cK oF) w6,
qMov s44 w7] 3)
.ret)
.skip))
(.seq (.region [seqO (r_load 3 true s4 0 46) w46,
qMov s2 w47,
seqO (r_callF 109 [s46,s47] 0 48) w48,
qMov s48 w45,
seqO (r_extract s45 0 0 49) w49,
seqO (r_extract s45 1 0 50) w50,
qMov s49 w16,
qMov s50 w15] 8)
(.seq (.seq (.region [qMov s15 w51,
qBin bNeq .neq s51 (cn 0) w52,
qMov s52 w53,
gdO s53 false w54 (qMov s16 w54),
gdO s53 false w55 (seqO (r_conv .u64 s54 0 55) w55),
gdO s53 false w56 (qMov s10 w56),
gdO s53 false w57 (qBin bGtr .gtr s55 s56 w57),
qPick s53 cT s57 w58] 8)
(.cond s58 (.seq (.region [qMov (cK oF) w6,
qMov (cn 16) w7] 2)
.ret)
.skip))
(.seq (.region [qMov s10 w59,
qMov s16 w60,
seqO (r_conv .u64 s60 0 61) w61,
qBin bSub .sub s59 s61 w62,
qMov s62 w10] 5)
(.seq (.region [qFad 0 s3 w63,
qLd s63 w64,
qMov s10 w65,
qBin bAdd .add s64 s65 w66,
qMov s66 w17] 5)
(.seq (.region [seqO (r_load 2 true s3 0 68) w68,
qMov s17 w69,
seqO (r_callF 110 [s68,s69] 0 70) w70,
qMov s70 w67,
seqO (r_extract s67 0 0 71) w71,
seqO (r_extract s67 1 0 72) w72,
seqO (r_extract s67 2 0 73) w73,
seqO (r_extract s67 3 0 74) w74,
qMov s71 w18,
qMov s72 w19,
qMov s73 w20,
qMov s74 w15] 12)
(.seq (.seq (.region [qMov s15 w75,
qBin bNeq .neq s75 (cn 0) w76,
qMov s76 w77,
gdO s77 false w78 (qMov s18 w78),
gdO s77 false w79 (qBin bEql .eql s78 (cu 0) w79),
gdO s77 false w80 (qMov s10 w80),
gdO s77 false w81 (qBin bEql .eql s80 (cu 0) w81),
gdO s77 false w82 (seqO (r_eqb true s79 s81 0 82) w82),
qPick s77 cT s82 w83,
qMov s83 w84,
gdO s84 false w85 (qMov s19 w85),
gdO s84 false w86 (qBin bEql .eql s85 (cu 0) w86),
gdO s84 false w87 (qMov s86 w87),
gdO s87 true w88 (qMov s18 w88),
gdO s87 true w89 (qBin bNeq .neq s88 (cu 0) w89),
gdO s84 false w90 (qPick s87 s89 cF w90),
gdO s84 false w91 (qMov s90 w91),
gdO s91 true w92 (qMov s18 w92),
gdO s91 true w93 (qBin (bGen .rem) .rem s92 (cu 256) w93),
gdO s91 true w94 (qBin bEql .eql s93 (cu 0) w94),
gdO s84 false w95 (qPick s91 s94 cF w95),
qPick s84 cT s95 w96] 22)
(.cond s96 (.seq (.region [qMov (cK oF) w6,
qMov (cn 12) w7] 2)
.ret)
.skip))
(.seq (.region [qMov s12 w97,
qMov s17 w98,
qMov s13 w99,
qMov s14 w100,
qMov s11 w101,
qBin bSub .sub s100 s101 w102,
qMov s19 w103,
qMov s20 w104,
seqO (r_build [u0,i0,i0,u0,u0] [(0,1,s98),(1,1,s99),(2,1,s102),(3,1,s103),(4,1,s104)] 0 105) w105,
seqO (r_buildSlice 5 1 [du,di,di,du,du] [(0,s105)] 0 106) w106,
seqO (r_append 5 40 s97 s106 0 107) w107,
qMov s107 w12] 12)
(.seq (.seq (.region [qMov s18 w108,
qBin bNeq .neq s108 (cu 0) w109] 2)
(.cond s109 (.seq (.region [qMov (cn 0) w11] 1)
(.seq (.seq (.region [qMov s19 w110,
qBin bEql .eql s110 (cu 0) w111] 2)
(.cond s111 (.region [qMov (cn 1) w11] 1)
.skip))
(.seq (.region [qMov s18 w112,
qMov s112 w2] 2)
(.exit 4294967296))))
.skip))
(.seq (.region [qMov s12 w113,
qMov s113 w6,
qMov (cn 0) w7] 3)
.ret)))))))))))
(.exit 4294967297)))))))))),false⟩
def q60:QFn:=⟨2,[.t s4],
(.seq (.region [seqO (r_box s0 0 2) w2,
qMov (cK (.d (.sc (.pointer none)))) w4] 2)
(.seq (.region [qFad 7 s2 w9,
qFad 1 s9 w10,
qLd s10 w11,
seqO (fr fun d=>r_clone 1 1 s11 1 d) w12,
qFad 7 s2 w13,
qFad 1 s13 w14,
seqO (r_store 1 s14 s12 0 0) wN] 7)
(.seq (.region [qFad 9 s2 w15,
qLd s15 w16,
seqO (fr fun d=>r_clone 2 32 s16 11 d) w17,
qFad 9 s2 w18,
seqO (r_store 1 s18 s17 0 0) wN] 5)
(.seq (.seq (.region [qFad 9 s2 w19,
qLd s19 w20,
seqO (r_len s20 0 21) w21,
qMov (cn 0) w22] 4)
(.block 0 (.loop (.seq (.region [qBin bLss .lss s22 s21 w23] 1)
(.seq (.cond s23 .skip
(.exit 0))
(.seq (.block 1 (.seq (.region [qMov s22 w24,
qMov s24 w5] 2)
(.draw [⟨(r_fieldAddr 9 s2 0 25),w25,0⟩,
⟨(r_load 1 false s25 0 26),w26,1⟩,
⟨(r_mov s5 0 27),w27,0⟩,
⟨(r_fieldAddr 9 s2 0 28),w28,0⟩,
⟨(r_load 1 false s28 0 29),w29,8⟩,
⟨(r_mov s5 0 30),w30,0⟩,
⟨(r_indexAddr 2 s29 s30 0 31),w31,56⟩,
⟨(r_fieldAddr 1 s31 0 32),w32,120⟩,
⟨(r_load 1 false s32 0 33),w33,248⟩,
⟨(fr fun d=>r_clone 1 1 s33 1 d),w34,504⟩,
⟨(r_indexAddr 2 s26 s27 0 35),w35,1023⟩,
⟨(r_fieldAddr 1 s35 0 36),w36,2047⟩,
⟨(r_store 1 s36 s34 0 0),wN,4095⟩] 13)))
(.region [qBin bAdd .add s22 (cn 1) w37,
qMov s37 w22] 2)))))))
(.seq (.region [qFad 10 s2 w38,
qLd s38 w39,
seqO (fr fun d=>r_clone 6 48 s39 1 d) w40,
qFad 10 s2 w41,
seqO (r_store 1 s41 s40 0 0) wN] 5)
(.seq (.region [seqO (r_load 12 true s2 0 42) w42,
qMov s1 w43,
seqO (r_build [oF,oF,oF,i0,i0,i0,i0,u0,oF,oF,oF,i0,i0,i0,i0,oF,i0] [(0,12,s42),(12,1,s43)] 0 44) w44,
seqO (fr fun d=>r_box s44 0 d) w45,
qMov s45 w6] 5)
(.seq (.draw [⟨(r_mov s6 0 47),w47,0⟩,
⟨(r_mov s6 0 48),w48,0⟩,
⟨(r_fieldAddr 0 s2 0 49),w49,0⟩,
⟨(r_load 3 true s49 0 50),w50,4⟩,
⟨(r_fieldAddr 10 s2 0 51),w51,0⟩,
⟨(r_load 1 false s51 0 52),w52,16⟩,
⟨(r_mov s1 0 53),w53,0⟩,
⟨(r_indexAddr 6 s52 s53 0 54),w54,112⟩,
⟨(r_fieldAddr 1 s54 0 55),w55,240⟩,
⟨(r_load 1 false s55 0 56),w56,496⟩,
⟨(r_callF 108 [s50,s56] 0 57),w57,1020⟩,
⟨(r_mov s57 0 46),w46,2044⟩,
⟨(r_extract s46 0 0 58),w58,4092⟩,
⟨(r_extract s46 1 0 59),w59,4092⟩,
⟨(r_extract s46 2 0 60),w60,4092⟩,
⟨(r_nilCheck s47 0 61),w61,8189⟩,
⟨(r_fieldAddr 13 s61 0 62),w62,40957⟩,
⟨(r_store 1 s62 s58 0 0),wN,106493⟩,
⟨(r_nilCheck s48 0 63),w63,245759⟩,
⟨(r_fieldAddr 14 s63 0 64),w64,507903⟩,
⟨(r_store 1 s64 s59 0 0),wN,1032191⟩] 21)
(.seq (.draw [⟨(r_fieldAddr 0 s2 0 66),w66,0⟩,
⟨(r_load 3 true s66 0 67),w67,1⟩,
⟨(r_fieldAddr 10 s2 0 68),w68,0⟩,
⟨(r_load 1 false s68 0 69),w69,4⟩,
⟨(r_mov s1 0 70),w70,0⟩,
⟨(r_indexAddr 6 s69 s70 0 71),w71,28⟩,
⟨(r_fieldAddr 1 s71 0 72),w72,60⟩,
⟨(r_load 1 false s72 0 73),w73,124⟩,
⟨(r_callF 109 [s67,s73] 0 74),w74,255⟩,
⟨(r_mov s74 0 65),w65,511⟩,
⟨(r_extract s65 0 0 75),w75,1023⟩,
⟨(r_extract s65 1 0 76),w76,1023⟩,
⟨(r_mov s75 0 7),w7,2047⟩,
⟨(r_mov s76 0 8),w8,8191⟩] 14)
(.seq (.region [qMov s6 w77,
qFad 9 s2 w78,
qLd s78 w79,
qMov s1 w80,
seqO (r_indexAddr 2 s79 s80 0 81) w81,
qFad 1 s81 w82,
qLd s82 w83,
seqO (r_len s83 0 84) w84,
qMov s7 w85,
qBin bSub .sub s84 s85 w86,
seqO (r_nilCheck s77 0 87) w87,
qFad 16 s87 w88,
seqO (r_store 1 s88 s86 0 0) wN] 13)
(.seq (.draw [⟨(r_mov s6 0 90),w90,0⟩,
⟨(r_fieldAddr 0 s2 0 91),w91,0⟩,
⟨(r_fieldAddr 0 s91 0 92),w92,2⟩,
⟨(r_load 1 false s92 0 93),w93,6⟩,
⟨(r_fieldAddr 0 s2 0 94),w94,0⟩,
⟨(r_fieldAddr 2 s94 0 95),w95,16⟩,
⟨(r_load 1 false s95 0 96),w96,48⟩,
⟨(r_mov s6 0 97),w97,0⟩,
⟨(r_nilCheck s97 0 98),w98,128⟩,
⟨(r_fieldAddr 13 s98 0 99),w99,384⟩,
⟨(r_load 1 false s99 0 100),w100,896⟩,
⟨(r_indexAddr 7 s96 s100 0 101),w101,2032⟩,
⟨(r_fieldAddr 3 s101 0 102),w102,4080⟩,
⟨(r_load 1 false s102 0 103),w103,8176⟩,
⟨(r_call 111 [s93,s103] 0 104),w104,16382⟩,
⟨(r_mov s104 0 89),w89,32766⟩,
⟨(r_extract s89 0 0 105),w105,65534⟩,
⟨(r_extract s89 1 0 106),w106,65534⟩,
⟨(r_extract s89 2 0 107),w107,65534⟩,
⟨(r_extract s89 3 0 108),w108,65534⟩,
⟨(r_nilCheck s90 0 109),w109,131071⟩,
⟨(r_fieldAddr 15 s109 0 110),w110,1179647⟩,
⟨(r_store 1 s110 s105 0 0),wN,3276799⟩] 23)
(.seq (.region [qMov s6 w111,
qMov s111 w4] 2)
.ret))))))))))),true⟩
def q61:QFn:=⟨2,[.t s4],
(.seq (.region [seqO (r_box s1 0 3) w3,
qMov (cn 0) w4] 2)
(.seq (.block 0 (.seq (.region [qFad 0 s3 w6,
qLd s6 w7,
qBin bEql .eql s7 (cb 22) w8,
qMov s8 w5] 4)
(.cond s5 (.seq (.region [qFad 1 s3 w9,
qLd s9 w10,
qMov s10 w4] 3)
.ret)
(.seq (.region [qFad 0 s3 w12,
qLd s12 w13,
qBin bEql .eql s13 (cb 23) w14,
qMov s14 w15,
gdO s15 true w16 (qMov s0 w16),
gdO s15 true w17 (qFad 1 s3 w17),
gdO s15 true w18 (qLd s17 w18),
gdO s15 true w19 (seqO (r_call 112 [s16,s18] 0 19) w19),
gdO s15 true w20 (seqO (r_indexAddr 1 s19 (cn 0) 0 20) w20),
gdO s15 true w21 (qLd s20 w21),
gdO s15 true w22 (qBin bNeq .neq s21 (cb 0) w22),
qPick s15 s22 cF w23,
qMov s23 w11] 13)
(.cond s11 (.seq (.region [qFad 2 s3 w24,
qLd s24 w25,
qMov s25 w4] 3)
.ret)
.skip)))))
(.seq (.region [qMov s0 w26,
seqO (r_nilCheck s26 0 27) w27,
qFad 14 s27 w28,
qLd s28 w29,
qBin bAdd .add s29 (cn 1) w30,
qMov s30 w4] 6)
.ret))),true⟩
def q62:QFn:=⟨2,[.t s4],
(.seq (.region [seqO (r_box s1 13 3) w3,
qMov (cn 0) w4] 2)
(.seq (.region [qMov (cn 0) w5,
qMov (cn 0) w6] 2)
(.seq (.seq (.region [qFad 0 s3 w7,
qLd s7 w8] 2)
(.block 0 (.seq (.seq (.region [qBin bEql .eql s8 (cb 6) w10,
qMov s10 w9] 2)
(.cond s9 .skip
(.seq (.region [qBin bEql .eql s8 (cb 7) w11,
qMov s11 w9] 2)
(.cond s9 .skip
(.seq (.region [qBin bEql .eql s8 (cb 8) w12,
qMov s12 w9] 2)
(.cond s9 .skip
(.seq (.region [qBin bEql .eql s8 (cb 9) w13,
qMov s13 w9] 2)
(.cond s9 .skip
(.region [qBin bEql .eql s8 (cb 10) w14,
qMov s14 w9] 2)))))))))
(.cond s9 (.draw [⟨(r_mov s0 0 15),w15,0⟩,
⟨(r_fieldAddr 2 s3 0 16),w16,0⟩,
⟨(r_load 1 false s16 0 17),w17,2⟩,
⟨(r_call 113 [s15,s17,(cn 0)] 0 18),w18,7⟩,
⟨(r_conv .i64 s18 0 19),w19,15⟩,
⟨(r_mov s0 0 20),w20,0⟩,
⟨(r_fieldAddr 3 s3 0 21),w21,0⟩,
⟨(r_load 1 false s21 0 22),w22,64⟩,
⟨(r_call 113 [s20,s22,(cn 0)] 0 23),w23,239⟩,
⟨(r_conv .i64 s23 0 24),w24,495⟩,
⟨(r_mov s19 0 5),w5,511⟩,
⟨(r_mov s24 0 6),w6,2047⟩] 12)
.skip))))
(.seq (.seq (.region [qFad 0 s3 w25,
qLd s25 w26] 2)
(.block 1 (.seq (.block 13 (.seq (.block 12 (.seq (.block 11 (.seq (.block 10 (.seq (.block 9 (.seq (.block 8 (.seq (.block 7 (.seq (.block 6 (.seq (.block 5 (.seq (.block 4 (.seq (.block 3 (.seq (.block 2 (.seq (.seq (.seq (.region [qBin bEql .eql s26 (cb 1) w28,
qMov s28 w27] 2)
(.cond s27 (.exit 2)
.skip))
(.seq (.seq (.region [qBin bEql .eql s26 (cb 2) w30,
qMov s30 w29] 2)
(.cond s29 (.exit 3)
.skip))
(.seq (.seq (.region [qBin bEql .eql s26 (cb 3) w32,
qMov s32 w31] 2)
(.cond s31 (.exit 4)
.skip))
(.seq (.seq (.region [qBin bEql .eql s26 (cb 4) w34,
qMov s34 w33] 2)
(.cond s33 (.exit 5)
.skip))
(.seq (.seq (.region [qBin bEql .eql s26 (cb 5) w36,
qMov s36 w35] 2)
(.cond s35 (.exit 6)
.skip))
(.seq (.seq (.region [qBin bEql .eql s26 (cb 7) w38,
qMov s38 w37] 2)
(.cond s37 (.exit 7)
.skip))
(.seq (.seq (.region [qBin bEql .eql s26 (cb 6) w40,
qMov s40 w39] 2)
(.cond s39 (.exit 8)
.skip))
(.seq (.seq (.region [qBin bEql .eql s26 (cb 8) w42,
qMov s42 w41] 2)
(.cond s41 (.exit 9)
.skip))
(.seq (.seq (.region [qBin bEql .eql s26 (cb 9) w44,
qMov s44 w43] 2)
(.cond s43 (.exit 10)
.skip))
(.seq (.seq (.region [qBin bEql .eql s26 (cb 10) w46,
qMov s46 w45] 2)
(.cond s45 (.exit 11)
.skip))
(.seq (.seq (.region [qBin bEql .eql s26 (cb 11) w48,
qMov s48 w47] 2)
(.cond s47 (.exit 12)
.skip))
(.seq (.region [qBin bEql .eql s26 (cb 12) w50,
qMov s50 w49] 2)
(.cond s49 (.exit 13)
.skip)))))))))))))
(.exit 1)))
(.seq (.region [qMov s0 w51,
qFad 1 s3 w52,
qLd s52 w53,
qFad 2 s3 w54,
qLd s54 w55,
seqO (r_conv .u64 s55 0 56) w56,
seqO (r_buildSlice 1 1 [du] [(0,s56)] 0 57) w57,
seqO (r_call 114 [s51,s53,s57] 0 58) w58] 8)
(.exit 1))))
(.seq (.draw [⟨(r_mov s0 0 59),w59,0⟩,
⟨(r_fieldAddr 1 s3 0 60),w60,0⟩,
⟨(r_load 1 false s60 0 61),w61,2⟩,
⟨(r_mov s0 0 62),w62,0⟩,
⟨(r_fieldAddr 2 s3 0 63),w63,0⟩,
⟨(r_load 1 false s63 0 64),w64,16⟩,
⟨(r_call 115 [s62,s64] 7 65),w65,56⟩,
⟨(r_mov s0 0 66),w66,0⟩,
⟨(r_nilCheck s66 0 67),w67,128⟩,
⟨(r_fieldAddr 0 s67 0 68),w68,384⟩,
⟨(r_fieldAddr 0 s68 0 69),w69,896⟩,
⟨(r_fieldAddr 1 s69 0 70),w70,1920⟩,
⟨(r_load 1 false s70 0 71),w71,3968⟩,
⟨(r_fieldAddr 2 s3 0 72),w72,0⟩,
⟨(r_load 1 false s72 0 73),w73,8192⟩,
⟨(r_indexAddr 1 s71 s73 0 74),w74,32640⟩,
⟨(r_load 1 false s74 0 75),w75,65408⟩,
⟨(r_lenS s75 0 76),w76,130944⟩,
⟨(r_conv .u64 s76 0 77),w77,262016⟩,
⟨(r_buildSlice 1 2 [du] [(0,s65),(1,s77)] 0 78),w78,524280⟩,
⟨(r_call 114 [s59,s61,s78] 0 79),w79,1048575⟩] 21)
(.exit 1))))
(.seq (.region [qMov s0 w80,
qFad 1 s3 w81,
qLd s81 w82,
qFad 2 s3 w83,
qLd s83 w84,
qBin bEql .eql s84 (cn 1) w85,
seqO (r_call 116 [s80,s82,s85] 0 86) w86] 7)
(.exit 1))))
(.seq (.region [qMov s0 w87,
qFad 1 s3 w88,
qLd s88 w89,
seqO (r_call 112 [s87,s89] 65537 90) w90,
seqO (r_clear 1 [db] s90 0 0) wN] 5)
(.exit 1))))
(.seq (.draw [⟨(r_mov s0 0 91),w91,0⟩,
⟨(r_fieldAddr 1 s3 0 92),w92,0⟩,
⟨(r_load 1 false s92 0 93),w93,2⟩,
⟨(r_call 112 [s91,s93] 65537 94),w94,7⟩,
⟨(r_mov s0 0 95),w95,0⟩,
⟨(r_fieldAddr 2 s3 0 96),w96,0⟩,
⟨(r_load 1 false s96 0 97),w97,32⟩,
⟨(r_call 112 [s95,s97] 0 98),w98,127⟩,
⟨(r_copy 1 s94 s98 0 99),w99,255⟩] 9)
(.exit 1))))
(.region [qMov s6 w100,
seqO (r_un .neg s100 0 101) w101,
qMov s101 w6] 3)))
(.seq (.region [qMov s0 w102,
qFad 1 s3 w103,
qLd s103 w104,
qMov s5 w105,
qMov s6 w106,
qBin bAdd .add s105 s106 w107,
seqO (r_conv .u64 s107 0 108) w108,
seqO (r_buildSlice 1 1 [du] [(0,s108)] 0 109) w109,
seqO (r_call 114 [s102,s104,s109] 0 110) w110] 9)
(.exit 1))))
(.seq (.region [qMov s0 w111,
qFad 1 s3 w112,
qLd s112 w113,
qMov s5 w114,
qMov s6 w115,
qBin (bGen .mul) .mul s114 s115 w116,
seqO (r_conv .u64 s116 0 117) w117,
seqO (r_buildSlice 1 1 [du] [(0,s117)] 0 118) w118,
seqO (r_call 114 [s111,s113,s118] 0 119) w119] 9)
(.exit 1))))
(.seq (.seq (.seq (.region [qMov s6 w120,
qBin bEql .eql s120 (cn 0) w121] 2)
(.cond s121 (.seq (.region [qMov (cn 1) w4] 1)
.ret)
.skip))
(.draw [⟨(r_mov s0 0 122),w122,0⟩,
⟨(r_fieldAddr 1 s3 0 123),w123,0⟩,
⟨(r_load 1 false s123 0 124),w124,2⟩,
⟨(r_mov s5 0 125),w125,0⟩,
⟨(r_mov s6 0 126),w126,0⟩,
⟨(r_bin .quo s125 s126 0 127),w127,24⟩,
⟨(r_conv .u64 s127 0 128),w128,56⟩,
⟨(r_buildSlice 1 1 [du] [(0,s128)] 0 129),w129,120⟩,
⟨(r_call 114 [s122,s124,s129] 0 130),w130,255⟩] 9))
(.exit 1))))
(.seq (.region [qMov s0 w131,
qFad 1 s3 w132,
qLd s132 w133,
qMov s5 w134,
qMov s6 w135,
qBin bLss .lss s134 s135 w136,
seqO (r_call 116 [s131,s133,s136] 0 137) w137] 7)
(.exit 1))))
(.seq (.draw [⟨(r_mov s0 0 138),w138,0⟩,
⟨(r_fieldAddr 1 s3 0 139),w139,0⟩,
⟨(r_load 1 false s139 0 140),w140,2⟩,
⟨(r_mov s0 0 141),w141,0⟩,
⟨(r_fieldAddr 2 s3 0 142),w142,0⟩,
⟨(r_load 1 false s142 0 143),w143,16⟩,
⟨(r_call 112 [s141,s143] 0 144),w144,56⟩,
⟨(r_mov s0 0 145),w145,0⟩,
⟨(r_fieldAddr 3 s3 0 146),w146,0⟩,
⟨(r_load 1 false s146 0 147),w147,256⟩,
⟨(r_call 112 [s145,s147] 0 148),w148,1016⟩,
⟨(r_callF 117 [s144,s148] 0 149),w149,2040⟩,
⟨(r_call 116 [s138,s140,s149] 0 150),w150,4095⟩] 13)
(.exit 1))))
(.seq (.draw [⟨(r_mov s0 0 151),w151,0⟩,
⟨(r_fieldAddr 1 s3 0 152),w152,0⟩,
⟨(r_load 1 false s152 0 153),w153,2⟩,
⟨(r_mov s0 0 154),w154,0⟩,
⟨(r_fieldAddr 2 s3 0 155),w155,0⟩,
⟨(r_load 1 false s155 0 156),w156,16⟩,
⟨(r_call 112 [s154,s156] 0 157),w157,56⟩,
⟨(r_indexAddr 1 s157 (cn 0) 0 158),w158,120⟩,
⟨(r_load 1 false s158 0 159),w159,248⟩,
⟨(r_bin .eql s159 (cb 0) 0 160),w160,504⟩,
⟨(r_call 116 [s151,s153,s160] 0 161),w161,1023⟩] 11)
(.exit 1)))))
(.seq (.region [qMov (cn 0) w4] 1)
.ret))))),true⟩
def q63:QFn:=⟨2,[.cell s4 2 true,.t s5],
(.seq (.region [seqO (r_box s1 13 3) w3,
seqO (r_alloc [i0,b0] 0 4) w4,
qMov (cn 0) w5] 3)
(.seq (.region [seqO (r_mov (cK oF) 65540 6) w6] 1)
(.seq (.seq (.region [qFad 0 s3 w9,
qLd s9 w10] 2)
(.block 0 (.seq (.region [qBin bEql .eql s10 (cb 13) w12,
qMov s12 w11] 2)
(.cond s11 (.draw [⟨(r_mov s0 0 13),w13,0⟩,
⟨(r_fieldAddr 1 s3 0 14),w14,0⟩,
⟨(r_load 1 false s14 0 15),w15,2⟩,
⟨(r_call 112 [s13,s15] 65537 16),w16,7⟩,
⟨(r_mov s0 0 17),w17,0⟩,
⟨(r_fieldAddr 2 s3 0 18),w18,0⟩,
⟨(r_load 1 false s18 0 19),w19,32⟩,
⟨(r_fieldAddr 3 s3 0 20),w20,0⟩,
⟨(r_load 1 false s20 0 21),w21,128⟩,
⟨(r_call 118 [s17,s19,s21] 0 22),w22,511⟩,
⟨(r_copy 1 s16 s22 0 23),w23,1023⟩] 11)
(.seq (.region [qBin bEql .eql s10 (cb 14) w25,
qMov s25 w24] 2)
(.cond s24 (.draw [⟨(r_mov s0 0 26),w26,0⟩,
⟨(r_fieldAddr 1 s3 0 27),w27,0⟩,
⟨(r_load 1 false s27 0 28),w28,2⟩,
⟨(r_fieldAddr 2 s3 0 29),w29,0⟩,
⟨(r_load 1 false s29 0 30),w30,8⟩,
⟨(r_call 118 [s26,s28,s30] 65537 31),w31,31⟩,
⟨(r_mov s0 0 32),w32,0⟩,
⟨(r_fieldAddr 3 s3 0 33),w33,0⟩,
⟨(r_load 1 false s33 0 34),w34,128⟩,
⟨(r_call 112 [s32,s34] 0 35),w35,511⟩,
⟨(r_copy 1 s31 s35 0 36),w36,1023⟩] 11)
(.seq (.region [qBin bEql .eql s10 (cb 15) w38,
qMov s38 w37] 2)
(.cond s37 (.seq (.draw [⟨(r_mov s0 0 39),w39,0⟩,
⟨(r_fieldAddr 1 s3 0 40),w40,0⟩,
⟨(r_load 1 false s40 0 41),w41,2⟩,
⟨(r_mov s0 0 42),w42,0⟩,
⟨(r_mov s0 0 43),w43,0⟩,
⟨(r_fieldAddr 1 s3 0 44),w44,0⟩,
⟨(r_load 1 false s44 0 45),w45,32⟩,
⟨(r_call 121 [s43,s45] 0 46),w46,112⟩,
⟨(r_field 1 1 false s46 0 47),w47,240⟩,
⟨(r_call 120 [s42,s47] 0 48),w48,504⟩,
⟨(r_call 119 [s39,s41,s48,(cK oF)] 0 49),w49,1023⟩,
⟨(r_store 2 s4 s49 0 0),wN,2047⟩,
⟨(r_mov (cn 0) 0 5),w5,4095⟩] 13)
.ret)
(.seq (.region [qBin bEql .eql s10 (cb 18) w51,
qMov s51 w50] 2)
(.cond s50 (.seq (.region [qMov s0 w52,
qFad 2 s3 w53,
qLd s53 w54,
seqO (r_call 113 [s52,s54,(cn 0)] 0 55) w55,
seqO (r_conv .i64 s55 0 56) w56,
qMov s56 w7] 6)
(.seq (.seq (.region [qMov s7 w57,
qBin bLss .lss s57 (cn 0) w58,
qMov s58 w59,
gdO s59 false w60 (qMov s7 w60),
gdO s59 false w61 (qBin bGtr .gtr s60 (cn 16) w61),
qPick s59 cT s61 w62] 6)
(.cond s62 (.seq (.region [seqO (r_build [i0,b0] [(0,1,(cn 3))] 0 63) w63,
seqO (r_store 2 s4 s63 0 0) wN,
qMov (cn 0) w5] 3)
.ret)
.skip))
(.seq (.draw [⟨(r_mov s0 0 64),w64,0⟩,
⟨(r_fieldAddr 1 s3 0 65),w65,0⟩,
⟨(r_load 1 false s65 0 66),w66,2⟩,
⟨(r_mov s7 0 67),w67,0⟩,
⟨(r_mov s0 0 68),w68,0⟩,
⟨(r_mov s0 0 69),w69,0⟩,
⟨(r_fieldAddr 1 s3 0 70),w70,0⟩,
⟨(r_load 1 false s70 0 71),w71,64⟩,
⟨(r_call 121 [s69,s71] 0 72),w72,224⟩,
⟨(r_field 1 1 false s72 0 73),w73,480⟩,
⟨(r_call 120 [s68,s73] 0 74),w74,1008⟩,
⟨(r_bin .mul s67 s74 0 75),w75,2040⟩,
⟨(r_mov s7 0 76),w76,0⟩,
⟨(r_conv .u64 s76 0 77),w77,4096⟩,
⟨(r_mov s7 0 78),w78,0⟩,
⟨(r_conv .u64 s78 0 79),w79,16384⟩,
⟨(r_buildSlice 1 2 [du] [(0,s77),(1,s79)] 0 80),w80,61440⟩,
⟨(r_call 119 [s64,s66,s75,s80] 0 81),w81,131071⟩,
⟨(r_store 2 s4 s81 0 0),wN,262143⟩,
⟨(r_mov (cn 0) 0 5),w5,524287⟩] 20)
.ret)))
(.seq (.region [qBin bEql .eql s10 (cb 16) w83,
qMov s83 w82] 2)
(.cond s82 (.seq (.draw [⟨(r_mov s0 0 85),w85,0⟩,
⟨(r_fieldAddr 2 s3 0 86),w86,0⟩,
⟨(r_load 1 false s86 0 87),w87,2⟩,
⟨(r_mov s0 0 88),w88,0⟩,
⟨(r_fieldAddr 1 s3 0 89),w89,0⟩,
⟨(r_load 1 false s89 0 90),w90,16⟩,
⟨(r_call 112 [s88,s90] 0 91),w91,56⟩,
⟨(r_len s91 0 92),w92,120⟩,
⟨(r_call 122 [s85,s87,s92] 65537 93),w93,255⟩,
⟨(r_mov s93 0 84),w84,511⟩,
⟨(r_extract s84 0 0 94),w94,1023⟩,
⟨(r_extract s84 1 0 95),w95,1023⟩,
⟨(r_extract s84 2 0 96),w96,1023⟩,
⟨(r_mov s94 65540 6),w6,2047⟩,
⟨(r_fieldAddr 0 s4 0 97),w97,12287⟩,
⟨(r_store 1 s97 s95 0 0),wN,28671⟩,
⟨(r_mov s96 0 5),w5,65535⟩] 17)
(.seq (.region [qMov s6 w98,
seqO (r_bad 0 99) w99] 2)
(.cond s99 (.region [qMov s0 w100,
qFad 1 s3 w101,
qLd s101 w102,
seqO (r_call 112 [s100,s102] 65537 103) w103,
qMov s6 w104,
seqO (r_copy 1 s103 s104 0 105) w105] 6)
.skip)))
(.seq (.region [qBin bEql .eql s10 (cb 17) w107,
qMov s107 w106] 2)
(.cond s106 (.seq (.draw [⟨(r_mov s0 0 109),w109,0⟩,
⟨(r_fieldAddr 1 s3 0 110),w110,0⟩,
⟨(r_load 1 false s110 0 111),w111,2⟩,
⟨(r_mov s0 0 112),w112,0⟩,
⟨(r_fieldAddr 2 s3 0 113),w113,0⟩,
⟨(r_load 1 false s113 0 114),w114,16⟩,
⟨(r_call 112 [s112,s114] 0 115),w115,56⟩,
⟨(r_len s115 0 116),w116,120⟩,
⟨(r_call 122 [s109,s111,s116] 65537 117),w117,255⟩,
⟨(r_mov s117 0 108),w108,511⟩,
⟨(r_extract s108 0 0 118),w118,1023⟩,
⟨(r_extract s108 1 0 119),w119,1023⟩,
⟨(r_extract s108 2 0 120),w120,1023⟩,
⟨(r_mov s118 65540 6),w6,2047⟩,
⟨(r_fieldAddr 0 s4 0 121),w121,12287⟩,
⟨(r_store 1 s121 s119 0 0),wN,28671⟩,
⟨(r_mov s120 0 5),w5,65535⟩] 17)
(.seq (.region [qMov s6 w122,
seqO (r_bad 0 123) w123] 2)
(.cond s123 (.region [qMov s6 w124,
qMov s0 w125,
qFad 2 s3 w126,
qLd s126 w127,
seqO (r_call 112 [s125,s127] 0 128) w128,
seqO (r_copy 1 s124 s128 0 129) w129] 6)
.skip)))
(.seq (.region [qBin bEql .eql s10 (cb 19) w131,
qMov s131 w130] 2)
(.cond s130 (.seq (.draw [⟨(r_mov s0 0 133),w133,0⟩,
⟨(r_fieldAddr 2 s3 0 134),w134,0⟩,
⟨(r_load 1 false s134 0 135),w135,2⟩,
⟨(r_mov s0 0 136),w136,0⟩,
⟨(r_fieldAddr 3 s3 0 137),w137,0⟩,
⟨(r_load 1 false s137 0 138),w138,16⟩,
⟨(r_call 113 [s136,s138,(cn 0)] 0 139),w139,56⟩,
⟨(r_conv .i64 s139 0 140),w140,120⟩,
⟨(r_call 123 [s133,s135,s140] 65537 141),w141,255⟩,
⟨(r_mov s141 0 132),w132,511⟩,
⟨(r_extract s132 0 0 142),w142,1023⟩,
⟨(r_extract s132 1 0 143),w143,1023⟩,
⟨(r_extract s132 2 0 144),w144,1023⟩,
⟨(r_mov s142 65540 6),w6,2047⟩,
⟨(r_fieldAddr 0 s4 0 145),w145,12287⟩,
⟨(r_store 1 s145 s143 0 0),wN,28671⟩,
⟨(r_mov s144 0 5),w5,65535⟩] 17)
(.seq (.region [qMov s6 w146,
seqO (r_bad 0 147) w147] 2)
(.cond s147 (.region [qMov s0 w148,
qFad 1 s3 w149,
qLd s149 w150,
seqO (r_call 112 [s148,s150] 65537 151) w151,
qMov s6 w152,
seqO (r_copy 1 s151 s152 0 153) w153] 6)
.skip)))
(.seq (.region [qBin bEql .eql s10 (cb 20) w155,
qMov s155 w154] 2)
(.cond s154 (.seq (.draw [⟨(r_mov s0 0 157),w157,0⟩,
⟨(r_fieldAddr 1 s3 0 158),w158,0⟩,
⟨(r_load 1 false s158 0 159),w159,2⟩,
⟨(r_mov s0 0 160),w160,0⟩,
⟨(r_fieldAddr 2 s3 0 161),w161,0⟩,
⟨(r_load 1 false s161 0 162),w162,16⟩,
⟨(r_call 113 [s160,s162,(cn 0)] 0 163),w163,56⟩,
⟨(r_conv .i64 s163 0 164),w164,120⟩,
⟨(r_call 123 [s157,s159,s164] 65537 165),w165,255⟩,
⟨(r_mov s165 0 156),w156,511⟩,
⟨(r_extract s156 0 0 166),w166,1023⟩,
⟨(r_extract s156 1 0 167),w167,1023⟩,
⟨(r_extract s156 2 0 168),w168,1023⟩,
⟨(r_mov s166 65540 6),w6,2047⟩,
⟨(r_fieldAddr 0 s4 0 169),w169,12287⟩,
⟨(r_store 1 s169 s167 0 0),wN,28671⟩,
⟨(r_mov s168 0 5),w5,65535⟩] 17)
(.seq (.region [qMov s6 w170,
seqO (r_bad 0 171) w171] 2)
(.cond s171 (.region [qMov s6 w172,
qMov s0 w173,
qFad 3 s3 w174,
qLd s174 w175,
seqO (r_call 112 [s173,s175] 0 176) w176,
seqO (r_copy 1 s172 s176 0 177) w177] 6)
.skip)))
(.seq (.region [qBin bEql .eql s10 (cb 21) w179,
qMov s179 w178] 2)
(.cond s178 (.seq (.region [qMov s0 w180,
qFad 2 s3 w181,
qLd s181 w182,
seqO (r_call 121 [s180,s182] 0 183) w183,
seqO (r_alloc [b0,i0,i0,oF] 0 8) w8,
seqO (r_store 4 s8 s183 0 0) wN] 6)
(.seq (.region [qFad 0 s8 w184,
qLd s184 w185,
qBin bEql .eql s185 (cb 6) w186] 3)
(.cond s186 (.region [qMov s0 w187,
qFad 1 s3 w188,
qLd s188 w189,
qFad 2 s8 w190,
qLd s190 w191,
seqO (r_conv .u64 s191 0 192) w192,
seqO (r_buildSlice 1 1 [du] [(0,s192)] 0 193) w193,
seqO (r_call 114 [s187,s189,s193] 0 194) w194] 8)
(.draw [⟨(r_mov s0 0 195),w195,0⟩,
⟨(r_fieldAddr 1 s3 0 196),w196,0⟩,
⟨(r_load 1 false s196 0 197),w197,2⟩,
⟨(r_mov s0 0 198),w198,0⟩,
⟨(r_fieldAddr 2 s3 0 199),w199,0⟩,
⟨(r_load 1 false s199 0 200),w200,16⟩,
⟨(r_call 113 [s198,s200,(cn 1)] 0 201),w201,56⟩,
⟨(r_buildSlice 1 1 [du] [(0,s201)] 0 202),w202,120⟩,
⟨(r_call 114 [s195,s197,s202] 0 203),w203,255⟩] 9))))
.skip))))))))))))))))))))
(.seq (.region [seqO (r_load 2 true s4 0 204) w204,
qMov s5 w205,
seqO (r_store 2 s4 s204 0 0) wN,
qMov s205 w5] 4)
.ret)))),true⟩
def q64:QFn:=⟨2,[.cell s4 2 true,.t s5],
(.seq (.region [seqO (r_box s1 13 3) w3,
seqO (r_alloc [i0,b0] 0 4) w4,
qMov (cn 0) w5] 3)
(.seq (.draw [⟨(r_mov s0 0 21),w21,0⟩,
⟨(r_nilCheck s21 0 22),w22,1⟩,
⟨(r_fieldAddr 0 s22 0 23),w23,3⟩,
⟨(r_fieldAddr 9 s23 0 24),w24,7⟩,
⟨(r_load 1 false s24 0 25),w25,15⟩,
⟨(r_mov s0 0 26),w26,0⟩,
⟨(r_nilCheck s26 0 27),w27,32⟩,
⟨(r_fieldAddr 12 s27 0 28),w28,96⟩,
⟨(r_load 1 false s28 0 29),w29,224⟩,
⟨(r_indexAddr 2 s25 s29 0 30),w30,511⟩,
⟨(r_mov s30 0 6),w6,1023⟩] 11)
(.seq (.seq (.region [qFad 0 s3 w31,
qLd s31 w32] 2)
(.block 0 (.seq (.region [qBin bEql .eql s32 (cb 24) w34,
qMov s34 w33] 2)
(.cond s33 (.seq (.region [qMov s0 w35,
qFad 1 s3 w36,
qLd s36 w37,
seqO (r_call 112 [s35,s37] 0 38) w38,
qMov s38 w7] 5)
(.seq (.region [qMov s7 w40,
seqO (r_len s40 0 41) w41,
seqO (r_callF 124 [s41] 0 42) w42,
qMov s42 w39,
seqO (r_extract s39 0 0 43) w43,
seqO (r_extract s39 1 0 44) w44,
qMov s43 w8,
qMov s44 w9] 8)
(.seq (.seq (.draw [⟨(r_mov s6 0 45),w45,0⟩,
⟨(r_nilCheck s45 0 46),w46,1⟩,
⟨(r_fieldAddr 1 s46 0 47),w47,3⟩,
⟨(r_load 1 false s47 0 48),w48,7⟩,
⟨(r_len s48 0 49),w49,15⟩,
⟨(r_mov s8 0 50),w50,0⟩,
⟨(r_bin .add s49 s50 0 51),w51,63⟩,
⟨(r_mov s0 0 52),w52,0⟩,
⟨(r_nilCheck s52 0 53),w53,128⟩,
⟨(r_fieldAddr 0 s53 0 54),w54,384⟩,
⟨(r_fieldAddr 3 s54 0 55),w55,896⟩,
⟨(r_fieldAddr 1 s55 0 56),w56,1920⟩,
⟨(r_load 1 false s56 0 57),w57,3968⟩,
⟨(r_bin .gtr s51 s57 0 58),w58,8191⟩] 14)
(.cond s58 (.seq (.region [seqO (r_build [i0,b0] [(1,1,(cb 4))] 0 59) w59,
seqO (r_store 2 s4 s59 0 0) wN,
qMov (cn 0) w5] 3)
.ret)
.skip))
(.seq (.draw [⟨(r_mov s6 0 60),w60,0⟩,
⟨(r_mov s6 0 61),w61,0⟩,
⟨(r_nilCheck s61 0 62),w62,2⟩,
⟨(r_fieldAddr 1 s62 0 63),w63,6⟩,
⟨(r_load 1 false s63 0 64),w64,14⟩,
⟨(r_mov s7 0 65),w65,0⟩,
⟨(r_mov s8 0 66),w66,0⟩,
⟨(r_mov s7 0 67),w67,0⟩,
⟨(r_len s67 0 68),w68,128⟩,
⟨(r_bin .sub s66 s68 0 69),w69,448⟩,
⟨(r_makeSlice 1 1 [db] s69 s69 0 70),w70,960⟩,
⟨(r_buildSlice 1 3 [(.sl [])] [(0,s64),(1,s65),(2,s70)] 0 71),w71,2046⟩,
⟨(r_call 125 [s71] 0 72),w72,4094⟩,
⟨(r_nilCheck s60 0 73),w73,8191⟩,
⟨(r_fieldAddr 1 s73 0 74),w74,16383⟩,
⟨(r_store 1 s74 s72 0 0),wN,32767⟩] 16)
(.draw [⟨(r_mov s0 0 75),w75,0⟩,
⟨(r_nilCheck s75 0 76),w76,1⟩,
⟨(r_fieldAddr 0 s76 0 77),w77,3⟩,
⟨(r_fieldAddr 10 s77 0 78),w78,7⟩,
⟨(r_load 1 false s78 0 79),w79,15⟩,
⟨(r_mov s0 0 80),w80,0⟩,
⟨(r_nilCheck s80 0 81),w81,32⟩,
⟨(r_fieldAddr 12 s81 0 82),w82,96⟩,
⟨(r_load 1 false s82 0 83),w83,224⟩,
⟨(r_indexAddr 6 s79 s83 0 84),w84,511⟩,
⟨(r_fieldAddr 2 s84 0 85),w85,1023⟩,
⟨(r_load 1 false s85 0 86),w86,2047⟩,
⟨(r_mov s8 0 87),w87,0⟩,
⟨(r_conv .u64 s87 0 88),w88,4096⟩,
⟨(r_bin .add s86 s88 0 89),w89,16383⟩,
⟨(r_indexAddr 6 s79 s83 0 90),w90,32767⟩,
⟨(r_fieldAddr 2 s90 0 91),w91,65535⟩,
⟨(r_store 1 s91 s89 0 0),wN,131071⟩] 18)))))
(.seq (.region [qBin bEql .eql s32 (cb 29) w93,
qMov s93 w92] 2)
(.cond s92 (.seq (.draw [⟨(r_mov s6 0 95),w95,0⟩,
⟨(r_nilCheck s95 0 96),w96,1⟩,
⟨(r_load 2 true s96 0 97),w97,3⟩,
⟨(r_mov s6 0 98),w98,0⟩,
⟨(r_nilCheck s98 0 99),w99,8⟩,
⟨(r_fieldAddr 0 s99 0 100),w100,24⟩,
⟨(r_load 1 false s100 0 101),w101,56⟩,
⟨(r_mov s0 0 102),w102,0⟩,
⟨(r_nilCheck s102 0 103),w103,128⟩,
⟨(r_fieldAddr 16 s103 0 104),w104,384⟩,
⟨(r_load 1 false s104 0 105),w105,896⟩,
⟨(r_conv .u64 s105 0 106),w106,1920⟩,
⟨(r_bin .add s101 s106 0 107),w107,4088⟩,
⟨(r_callF 110 [s97,s107] 0 108),w108,8191⟩,
⟨(r_mov s108 0 94),w94,16383⟩,
⟨(r_extract s94 0 0 109),w109,32767⟩,
⟨(r_extract s94 1 0 110),w110,32767⟩,
⟨(r_extract s94 2 0 111),w111,32767⟩,
⟨(r_extract s94 3 0 112),w112,32767⟩,
⟨(r_mov s109 0 10),w10,65535⟩,
⟨(r_mov s110 0 11),w11,655359⟩,
⟨(r_mov s111 0 12),w12,1835007⟩,
⟨(r_mov s112 0 13),w13,4194303⟩] 23)
(.seq (.draw [⟨(r_mov s0 0 114),w114,0⟩,
⟨(r_nilCheck s114 0 115),w115,1⟩,
⟨(r_fieldAddr 0 s115 0 116),w116,3⟩,
⟨(r_fieldAddr 7 s116 0 117),w117,7⟩,
⟨(r_load 2 true s117 0 118),w118,15⟩,
⟨(r_mov s0 0 119),w119,0⟩,
⟨(r_nilCheck s119 0 120),w120,32⟩,
⟨(r_fieldAddr 0 s120 0 121),w121,96⟩,
⟨(r_fieldAddr 10 s121 0 122),w122,224⟩,
⟨(r_load 1 false s122 0 123),w123,480⟩,
⟨(r_mov s0 0 124),w124,0⟩,
⟨(r_nilCheck s124 0 125),w125,1024⟩,
⟨(r_fieldAddr 12 s125 0 126),w126,3072⟩,
⟨(r_load 1 false s126 0 127),w127,7168⟩,
⟨(r_indexAddr 6 s123 s127 0 128),w128,16352⟩,
⟨(r_fieldAddr 4 s128 0 129),w129,32736⟩,
⟨(r_load 1 false s129 0 130),w130,65504⟩,
⟨(r_mov s11 0 131),w131,0⟩,
⟨(r_mov s12 0 132),w132,0⟩,
⟨(r_call 126 [s118,s130,s131,s132] 10 133),w133,524287⟩,
⟨(r_mov s133 0 113),w113,1048575⟩,
⟨(r_extract s113 0 0 134),w134,2097151⟩,
⟨(r_extract s113 1 0 135),w135,2097151⟩,
⟨(r_extract s113 2 0 136),w136,2097151⟩,
⟨(r_extract s113 3 0 137),w137,2097151⟩,
⟨(r_alloc [u0,oF] 0 14),w14,0⟩,
⟨(r_store 2 s14 s134 0 0),wN,37748735⟩,
⟨(r_mov s135 0 15),w15,109051903⟩,
⟨(r_mov s136 0 16),w16,251658239⟩,
⟨(r_mov s137 0 17),w17,536870911⟩] 30)
(.seq (.seq (.region [qMov s17 w138,
qBin bNeq .neq s138 (cn 0) w139] 2)
(.cond s139 (.seq (.region [seqO (r_build [i0,b0] [] 0 140) w140,
seqO (r_store 2 s4 s140 0 0) wN,
qMov (cn 36) w5] 3)
.ret)
.skip))
(.seq (.region [qMov s0 w141,
seqO (r_load 2 true s14 0 142) w142,
seqO (r_nilCheck s141 0 143) w143,
qFad 0 s143 w144,
qFad 7 s144 w145,
seqO (r_store 2 s145 s142 0 0) wN] 6)
(.seq (.region [qMov s0 w146,
qFad 1 s3 w147,
qLd s147 w148,
qMov s16 w149,
seqO (r_call 116 [s146,s148,s149] 0 150) w150] 5)
(.region [qMov s0 w151,
qFad 2 s3 w152,
qLd s152 w153,
qMov s15 w154,
seqO (r_conv .u64 s154 0 155) w155,
seqO (r_buildSlice 1 1 [du] [(0,s155)] 0 156) w156,
seqO (r_call 114 [s151,s153,s156] 0 157) w157] 7))))))
(.seq (.region [qBin bEql .eql s32 (cb 32) w159,
qMov s159 w158] 2)
(.cond s158 (.draw [⟨(r_mov s0 0 161),w161,0⟩,
⟨(r_mov s0 0 162),w162,0⟩,
⟨(r_nilCheck s162 0 163),w163,2⟩,
⟨(r_fieldAddr 0 s163 0 164),w164,6⟩,
⟨(r_fieldAddr 10 s164 0 165),w165,14⟩,
⟨(r_load 1 false s165 0 166),w166,30⟩,
⟨(r_mov s0 0 167),w167,0⟩,
⟨(r_nilCheck s167 0 168),w168,64⟩,
⟨(r_fieldAddr 12 s168 0 169),w169,192⟩,
⟨(r_load 1 false s169 0 170),w170,448⟩,
⟨(r_mov s0 0 171),w171,0⟩,
⟨(r_fieldAddr 1 s3 0 172),w172,0⟩,
⟨(r_load 1 false s172 0 173),w173,2048⟩,
⟨(r_call 113 [s171,s173,(cn 0)] 7 174),w174,7168⟩,
⟨(r_conv .i64 s174 0 175),w175,15360⟩,
⟨(fr fun d=>r_call 127 [s166,s170,s175] 393217 d),w176,32766⟩,
⟨(r_mov s176 0 160),w160,65534⟩,
⟨(r_extract s160 0 0 177),w177,131070⟩,
⟨(r_extract s160 1 0 178),w178,131070⟩,
⟨(r_nilCheck s161 0 179),w179,262143⟩,
⟨(r_fieldAddr 0 s179 0 180),w180,786431⟩,
⟨(r_fieldAddr 10 s180 0 181),w181,1835007⟩,
⟨(r_store 1 s181 s177 0 0),wN,3932159⟩] 23)
(.seq (.region [qBin bEql .eql s32 (cb 33) w183,
qMov s183 w182] 2)
(.cond s182 (.seq (.draw [⟨(r_mov s0 0 185),w185,0⟩,
⟨(r_nilCheck s185 0 186),w186,1⟩,
⟨(r_fieldAddr 0 s186 0 187),w187,3⟩,
⟨(r_fieldAddr 10 s187 0 188),w188,7⟩,
⟨(r_load 1 false s188 0 189),w189,15⟩,
⟨(r_mov s0 0 190),w190,0⟩,
⟨(r_fieldAddr 2 s3 0 191),w191,0⟩,
⟨(r_load 1 false s191 0 192),w192,64⟩,
⟨(r_call 113 [s190,s192,(cn 0)] 7 193),w193,224⟩,
⟨(r_conv .i64 s193 0 194),w194,480⟩,
⟨(fr fun d=>r_call 128 [s189,s194] 393217 d),w195,1023⟩,
⟨(r_mov s195 0 184),w184,2047⟩,
⟨(r_extract s184 0 0 196),w196,4095⟩,
⟨(r_extract s184 1 0 197),w197,4095⟩,
⟨(r_extract s184 2 0 198),w198,4095⟩,
⟨(r_mov s196 0 18),w18,8191⟩,
⟨(r_mov s197 0 19),w19,49151⟩,
⟨(r_mov s198 0 20),w20,131071⟩] 18)
(.seq (.region [qMov s0 w199,
qMov s18 w200,
seqO (r_nilCheck s199 0 201) w201,
qFad 0 s201 w202,
qFad 10 s202 w203,
seqO (r_store 1 s203 s200 0 0) wN] 6)
(.region [qMov s0 w204,
qFad 1 s3 w205,
qLd s205 w206,
qMov s19 w207,
qBin bGeq .geq s207 (cn 0) w208,
seqO (r_call 116 [s204,s206,s208] 0 209) w209] 6)))
.skip))))))))))
(.seq (.region [seqO (r_build [i0,b0] [] 0 210) w210,
seqO (r_store 2 s4 s210 0 0) wN,
qMov (cn 0) w5] 3)
.ret)))),true⟩
def q65:QFn:=⟨2,[.cell s4 2 true],
(.seq (.region [seqO (r_box s1 0 3) w3,
seqO (r_alloc [b0,i0] 0 4) w4] 2)
(.seq (.region [qMov s0 w8,
seqO (r_call 68 [s8] 0 9) w9,
seqO (r_nilCheck s9 0 10) w10,
qFad 4 s10 w11,
qLd s11 w12,
qFad 0 s3 w13,
seqO (r_store 1 s13 s12 0 0) wN] 7)
(.seq (.draw [⟨(r_mov s0 0 15),w15,0⟩,
⟨(r_nilCheck s15 0 16),w16,1⟩,
⟨(r_fieldAddr 0 s16 0 17),w17,3⟩,
⟨(r_fieldAddr 7 s17 0 18),w18,7⟩,
⟨(r_load 2 true s18 0 19),w19,15⟩,
⟨(r_load 7 true s3 0 20),w20,0⟩,
⟨(r_mov s0 0 21),w21,0⟩,
⟨(r_nilCheck s21 0 22),w22,64⟩,
⟨(r_fieldAddr 0 s22 0 23),w23,192⟩,
⟨(r_fieldAddr 3 s23 0 24),w24,448⟩,
⟨(r_fieldAddr 2 s24 0 25),w25,960⟩,
⟨(r_load 1 false s25 0 26),w26,1984⟩,
⟨(r_call 129 [s19,s20,s26] 0 27),w27,4095⟩,
⟨(r_mov s27 0 14),w14,8191⟩,
⟨(r_extract s14 0 0 28),w28,16383⟩,
⟨(r_extract s14 1 0 29),w29,16383⟩,
⟨(r_extract s14 2 0 30),w30,16383⟩,
⟨(r_alloc [u0,oF] 0 5),w5,0⟩,
⟨(r_store 2 s5 s28 0 0),wN,163839⟩,
⟨(r_mov s29 0 6),w6,458751⟩,
⟨(r_mov s30 0 7),w7,1048575⟩] 21)
(.seq (.seq (.region [qMov s7 w31,
qBin bEql .eql s31 (cn 18) w32] 2)
(.cond s32 (.seq (.region [seqO (r_build [b0,i0] [(0,1,(cb 5))] 0 33) w33,
seqO (r_store 2 s4 s33 0 0) wN] 2)
.ret)
.skip))
(.seq (.seq (.region [qMov s7 w34,
qBin bNeq .neq s34 (cn 0) w35] 2)
(.cond s35 (.seq (.region [seqO (r_callF 130 [] 0 36) w36,
seqO (r_store 2 s4 s36 0 0) wN] 2)
.ret)
.skip))
(.seq (.region [qMov s0 w37,
seqO (r_load 2 true s5 0 38) w38,
seqO (r_nilCheck s37 0 39) w39,
qFad 0 s39 w40,
qFad 7 s40 w41,
seqO (r_store 2 s41 s38 0 0) wN] 6)
(.seq (.region [qMov s0 w42,
seqO (r_call 68 [s42] 0 43) w43,
qMov s6 w44,
seqO (r_nilCheck s43 0 45) w45,
qFad 4 s45 w46,
seqO (r_store 1 s46 s44 0 0) wN] 6)
(.seq (.region [qMov s0 w47,
seqO (r_call 131 [s47] 0 48) w48,
seqO (r_store 2 s4 s48 0 0) wN] 3)
.ret)))))))),true⟩
def q66:QFn:=⟨2,[.t s4],
(.seq (.region [qMov (cK oF) w4] 1)
(.seq (.region [qMov (cn 0) w5] 1)
(.seq (.seq (.draw [⟨(r_mov s0 0 13),w13,0⟩,
⟨(r_nilCheck s13 0 14),w14,1⟩,
⟨(r_fieldAddr 0 s14 0 15),w15,3⟩,
⟨(r_fieldAddr 0 s15 0 16),w16,7⟩,
⟨(r_fieldAddr 2 s16 0 17),w17,15⟩,
⟨(r_load 1 false s17 0 18),w18,31⟩,
⟨(r_mov s1 0 19),w19,0⟩,
⟨(r_indexAddr 7 s18 s19 0 20),w20,127⟩,
⟨(r_fieldAddr 3 s20 0 21),w21,255⟩,
⟨(r_load 1 false s21 0 22),w22,511⟩,
⟨(r_mov s0 0 23),w23,0⟩,
⟨(r_nilCheck s23 0 24),w24,1024⟩,
⟨(r_fieldAddr 0 s24 0 25),w25,3072⟩,
⟨(r_fieldAddr 0 s25 0 26),w26,7168⟩,
⟨(r_fieldAddr 2 s26 0 27),w27,15360⟩,
⟨(r_load 1 false s27 0 28),w28,31744⟩,
⟨(r_mov s1 0 29),w29,0⟩,
⟨(r_indexAddr 7 s28 s29 0 30),w30,130048⟩,
⟨(r_fieldAddr 1 s30 0 31),w31,261120⟩,
⟨(r_load 1 false s31 0 32),w32,523264⟩,
⟨(r_slice 2 s22 none (some s32) none 0 33),w33,1048575⟩,
⟨(r_len s33 0 34),w34,2097151⟩,
⟨(r_mov (cn 0) 0 35),w35,0⟩] 23)
(.block 0 (.loop (.seq (.region [qBin bLss .lss s35 s34 w36] 1)
(.seq (.cond s36 .skip
(.exit 0))
(.seq (.block 1 (.seq (.region [seqO (r_indexAddr 2 s33 s35 0 37) w37,
seqO (r_load 2 true s37 0 38) w38,
seqO (r_alloc [(.d (.sc (.string ⟨#[]⟩))),i0] 0 7) w7,
seqO (r_store 2 s7 s38 0 0) wN] 4)
(.seq (.draw [⟨(r_mov s0 0 40),w40,0⟩,
⟨(r_nilCheck s40 0 41),w41,1⟩,
⟨(r_fieldAddr 0 s41 0 42),w42,3⟩,
⟨(r_fieldAddr 0 s42 0 43),w43,7⟩,
⟨(r_fieldAddr 0 s43 0 44),w44,15⟩,
⟨(r_load 1 false s44 0 45),w45,31⟩,
⟨(r_fieldAddr 1 s7 0 46),w46,0⟩,
⟨(r_load 1 false s46 0 47),w47,64⟩,
⟨(r_callF 132 [s45,s47] 0 48),w48,255⟩,
⟨(r_mov s48 0 39),w39,511⟩,
⟨(r_extract s39 0 0 49),w49,1023⟩,
⟨(r_extract s39 1 0 50),w50,1023⟩,
⟨(r_extract s39 2 0 51),w51,1023⟩,
⟨(r_mov s49 0 8),w8,2047⟩,
⟨(r_mov s50 0 9),w9,12287⟩,
⟨(r_mov s51 0 10),w10,32767⟩] 16)
(.seq (.region [qMov s8 w53,
seqO (r_callF 124 [s53] 0 54) w54,
qMov s54 w52,
seqO (r_extract s52 0 0 55) w55,
seqO (r_extract s52 1 0 56) w56,
qMov s55 w11,
qMov s56 w12] 7)
(.region [qMov s5 w57,
qMov s11 w58,
qBin bAdd .add s57 s58 w59,
qMov s59 w5] 4)))))
(.region [qBin bAdd .add s35 (cn 1) w60,
qMov s60 w35] 2)))))))
(.seq (.region [qMov s0 w61,
qMov s5 w62,
seqO (r_call 133 [s61,s62] 0 63) w63,
qMov s63 w4] 4)
.ret)))),true⟩
def q67:QFn:=⟨7,[.cell s14 2 true],
(.seq (.region [seqO (r_alloc [b0,i0] 0 14) w14] 1)
(.seq (.draw [⟨(r_mov s0 0 19),w19,0⟩,
⟨(r_nilCheck s19 0 20),w20,1⟩,
⟨(r_fieldAddr 0 s20 0 21),w21,3⟩,
⟨(r_fieldAddr 9 s21 0 22),w22,7⟩,
⟨(r_load 1 false s22 0 23),w23,15⟩,
⟨(r_mov s1 0 24),w24,0⟩,
⟨(r_indexAddr 2 s23 s24 0 25),w25,63⟩,
⟨(r_load 2 true s25 0 26),w26,127⟩,
⟨(r_mov s0 0 27),w27,0⟩,
⟨(r_nilCheck s27 0 28),w28,256⟩,
⟨(r_fieldAddr 0 s28 0 29),w29,768⟩,
⟨(r_fieldAddr 0 s29 0 30),w30,1792⟩,
⟨(r_load 3 true s30 0 31),w31,3840⟩,
⟨(r_mov s2 0 32),w32,0⟩,
⟨(r_mov s3 0 33),w33,0⟩,
⟨(r_mov s4 0 34),w34,0⟩,
⟨(r_mov s5 0 35),w35,0⟩,
⟨(r_mov s6 0 36),w36,0⟩,
⟨(r_mov s0 0 37),w37,0⟩,
⟨(r_nilCheck s37 0 38),w38,262144⟩,
⟨(r_fieldAddr 0 s38 0 39),w39,786432⟩,
⟨(r_fieldAddr 3 s39 0 40),w40,1835008⟩,
⟨(r_fieldAddr 1 s40 0 41),w41,3932160⟩,
⟨(r_load 1 false s41 0 42),w42,8126464⟩,
⟨(r_call 134 [s26,s31,s32,s33,s34,s35,s36,s42] 0 43),w43,16777215⟩,
⟨(r_mov s43 0 18),w18,33554431⟩,
⟨(r_extract s18 0 0 44),w44,67108863⟩,
⟨(r_extract s18 1 0 45),w45,67108863⟩,
⟨(r_extract s18 2 0 46),w46,67108863⟩,
⟨(r_alloc [u0,oF] 0 15),w15,0⟩,
⟨(r_store 2 s15 s44 0 0),wN,671088639⟩,
⟨(r_mov s45 0 16),w16,1879048191⟩,
⟨(r_mov s46 0 17),w17,4294967295⟩] 33)
(.seq (.seq (.region [qMov s17 w47,
qBin bEql .eql s47 (cn 18) w48] 2)
(.cond s48 (.seq (.region [seqO (r_build [b0,i0] [(0,1,(cb 4))] 0 49) w49,
seqO (r_store 2 s14 s49 0 0) wN] 2)
.ret)
.skip))
(.seq (.seq (.region [qMov s17 w50,
qBin bNeq .neq s50 (cn 0) w51] 2)
(.cond s51 (.seq (.region [seqO (r_callF 130 [] 0 52) w52,
seqO (r_store 2 s14 s52 0 0) wN] 2)
.ret)
.skip))
(.seq (.draw [⟨(r_mov s0 0 53),w53,0⟩,
⟨(r_nilCheck s53 0 54),w54,1⟩,
⟨(r_fieldAddr 0 s54 0 55),w55,3⟩,
⟨(r_fieldAddr 9 s55 0 56),w56,7⟩,
⟨(r_load 1 false s56 0 57),w57,15⟩,
⟨(r_mov s1 0 58),w58,0⟩,
⟨(r_load 2 true s15 0 59),w59,0⟩,
⟨(r_indexAddr 2 s57 s58 0 60),w60,127⟩,
⟨(r_store 2 s60 s59 0 0),wN,255⟩] 9)
(.seq (.draw [⟨(r_mov s0 0 61),w61,0⟩,
⟨(r_nilCheck s61 0 62),w62,1⟩,
⟨(r_fieldAddr 0 s62 0 63),w63,3⟩,
⟨(r_fieldAddr 10 s63 0 64),w64,7⟩,
⟨(r_load 1 false s64 0 65),w65,15⟩,
⟨(r_mov s1 0 66),w66,0⟩,
⟨(r_fieldAddr 0 s15 0 67),w67,0⟩,
⟨(r_load 1 false s67 0 68),w68,64⟩,
⟨(r_fieldAddr 1 s15 0 69),w69,0⟩,
⟨(r_load 1 false s69 0 70),w70,256⟩,
⟨(r_len s70 0 71),w71,768⟩,
⟨(r_conv .u64 s71 0 72),w72,1792⟩,
⟨(r_bin .add s68 s72 0 73),w73,4032⟩,
⟨(r_indexAddr 6 s65 s66 0 74),w74,8191⟩,
⟨(r_fieldAddr 2 s74 0 75),w75,16383⟩,
⟨(r_store 1 s75 s73 0 0),wN,32767⟩] 16)
(.seq (.draw [⟨(r_mov s0 0 76),w76,0⟩,
⟨(r_nilCheck s76 0 77),w77,1⟩,
⟨(r_fieldAddr 0 s77 0 78),w78,3⟩,
⟨(r_fieldAddr 10 s78 0 79),w79,7⟩,
⟨(r_load 1 false s79 0 80),w80,15⟩,
⟨(r_mov s1 0 81),w81,0⟩,
⟨(r_mov s2 0 82),w82,0⟩,
⟨(r_callF 135 [s82,(cn 0)] 0 83),w83,64⟩,
⟨(r_indexAddr 6 s80 s81 0 84),w84,255⟩,
⟨(r_fieldAddr 1 s84 0 85),w85,511⟩,
⟨(r_store 1 s85 s83 0 0),wN,1023⟩] 11)
(.seq (.region [seqO (r_build [b0,i0] [] 0 86) w86,
seqO (r_store 2 s14 s86 0 0) wN] 2)
.ret)))))))),true⟩
def q68:QFn:=⟨1,[.t s2],
(.seq (.region [qMov (cK (.d (.sc (.pointer none)))) w2] 1)
(.seq (.draw [⟨(r_mov s0 0 3),w3,0⟩,
⟨(r_nilCheck s3 0 4),w4,1⟩,
⟨(r_fieldAddr 0 s4 0 5),w5,3⟩,
⟨(r_fieldAddr 10 s5 0 6),w6,7⟩,
⟨(r_load 1 false s6 0 7),w7,15⟩,
⟨(r_mov s0 0 8),w8,0⟩,
⟨(r_nilCheck s8 0 9),w9,32⟩,
⟨(r_fieldAddr 12 s9 0 10),w10,96⟩,
⟨(r_load 1 false s10 0 11),w11,224⟩,
⟨(r_indexAddr 6 s7 s11 0 12),w12,511⟩,
⟨(r_mov s12 0 2),w2,1023⟩] 11)
.ret)),true⟩
def q69:QFn:=⟨1,[.cell s2 2 true],
(.seq (.region [seqO (r_alloc [b0,i0] 0 2) w2] 1)
(.seq (.draw [⟨(r_mov s0 0 10),w10,0⟩,
⟨(r_call 68 [s10] 1151798903234887680 11),w11,1⟩,
⟨(r_nilCheck s11 0 12),w12,3⟩,
⟨(r_fieldAddr 3 s12 0 13),w13,7⟩,
⟨(r_load 1 false s13 0 14),w14,15⟩,
⟨(r_mov s0 0 15),w15,0⟩,
⟨(r_nilCheck s15 0 16),w16,32⟩,
⟨(r_fieldAddr 13 s16 0 17),w17,96⟩,
⟨(r_fieldAddr 0 s17 0 18),w18,224⟩,
⟨(r_load 1 false s18 0 19),w19,480⟩,
⟨(r_mov s0 0 20),w20,0⟩,
⟨(r_nilCheck s20 0 21),w21,1024⟩,
⟨(r_fieldAddr 18 s21 0 22),w22,3072⟩,
⟨(r_fieldAddr 1 s22 0 23),w23,7168⟩,
⟨(r_load 1 false s23 0 24),w24,15360⟩,
⟨(r_build [u0,u0,i0,(.d (.sc (.bool false))),u0] [(0,1,s14),(1,1,s19),(2,1,s24)] 0 25),w25,32767⟩,
⟨(r_alloc [u0,u0,i0,(.d (.sc (.bool false))),u0] 0 3),w3,0⟩,
⟨(r_store 5 s3 s25 0 0),wN,131071⟩] 18)
(.seq (.seq (.draw [⟨(r_mov s0 0 27),w27,0⟩,
⟨(r_nilCheck s27 0 28),w28,1⟩,
⟨(r_fieldAddr 0 s28 0 29),w29,3⟩,
⟨(r_fieldAddr 7 s29 0 30),w30,7⟩,
⟨(r_load 2 true s30 0 31),w31,15⟩,
⟨(r_mov s0 0 32),w32,0⟩,
⟨(r_nilCheck s32 0 33),w33,32⟩,
⟨(r_fieldAddr 0 s33 0 34),w34,96⟩,
⟨(r_fieldAddr 3 s34 0 35),w35,224⟩,
⟨(r_fieldAddr 2 s35 0 36),w36,480⟩,
⟨(r_load 1 false s36 0 37),w37,992⟩,
⟨(r_callF 76 [s31,s37] 0 38),w38,2047⟩,
⟨(r_mov s38 0 26),w26,4095⟩,
⟨(r_extract s26 0 0 39),w39,8191⟩,
⟨(r_extract s26 1 0 40),w40,8191⟩,
⟨(r_mov s39 0 4),w4,16383⟩,
⟨(r_mov s40 0 5),w5,65535⟩] 17)
(.seq (.region [qMov s4 w41,
qBin bLss .lss s41 (cn 40) w42] 2)
(.cond s42 (.seq (.region [seqO (r_build [b0,i0] [(0,1,(cb 5))] 0 43) w43,
seqO (r_store 2 s2 s43 0 0) wN] 2)
.ret)
.skip)))
(.seq (.seq (.region [qMov s0 w44,
qMov s0 w45,
seqO (r_nilCheck s45 0 46) w46,
qFad 18 s46 w47,
qFad 1 s47 w48,
qLd s48 w49,
seqO (r_call 66 [s44,s49] 0 50) w50,
qMov s50 w6] 8)
(.seq (.region [qMov s6 w51,
seqO (r_len s51 0 52) w52,
qBin bGtr .gtr s52 (cn 0) w53] 3)
(.cond s53 (.region [qMov s6 w54,
seqO (r_callF 136 [s54] 0 55) w55,
qFad 3 s3 w56,
seqO (r_store 1 s56 cT 0 0) wN,
qFad 4 s3 w57,
seqO (r_store 1 s57 s55 0 0) wN] 6)
.skip)))
(.seq (.draw [⟨(r_mov s0 0 59),w59,0⟩,
⟨(r_nilCheck s59 0 60),w60,1⟩,
⟨(r_fieldAddr 0 s60 0 61),w61,3⟩,
⟨(r_fieldAddr 7 s61 0 62),w62,7⟩,
⟨(r_load 2 true s62 0 63),w63,15⟩,
⟨(r_load 5 true s3 0 64),w64,0⟩,
⟨(r_mov s0 0 65),w65,0⟩,
⟨(r_nilCheck s65 0 66),w66,64⟩,
⟨(r_fieldAddr 0 s66 0 67),w67,192⟩,
⟨(r_fieldAddr 3 s67 0 68),w68,448⟩,
⟨(r_fieldAddr 2 s68 0 69),w69,960⟩,
⟨(r_load 1 false s69 0 70),w70,1984⟩,
⟨(r_call 137 [s63,s64,s70] 0 71),w71,4095⟩,
⟨(r_mov s71 0 58),w58,8191⟩,
⟨(r_extract s58 0 0 72),w72,16383⟩,
⟨(r_extract s58 1 0 73),w73,16383⟩,
⟨(r_extract s58 2 0 74),w74,16383⟩,
⟨(r_alloc [u0,oF] 0 7),w7,0⟩,
⟨(r_store 2 s7 s72 0 0),wN,163839⟩,
⟨(r_mov s73 0 8),w8,458751⟩,
⟨(r_mov s74 0 9),w9,1048575⟩] 21)
(.seq (.seq (.region [qMov s9 w75,
qBin bNeq .neq s75 (cn 0) w76] 2)
(.cond s76 (.seq (.region [seqO (r_callF 130 [] 0 77) w77,
seqO (r_store 2 s2 s77 0 0) wN] 2)
.ret)
.skip))
(.seq (.region [qMov s0 w78,
seqO (r_load 2 true s7 0 79) w79,
seqO (r_nilCheck s78 0 80) w80,
qFad 0 s80 w81,
qFad 7 s81 w82,
seqO (r_store 2 s82 s79 0 0) wN] 6)
(.seq (.region [qMov s0 w83,
seqO (r_call 68 [s83] 0 84) w84,
qMov s8 w85,
seqO (r_nilCheck s84 0 86) w86,
qFad 3 s86 w87,
seqO (r_store 1 s87 s85 0 0) wN] 6)
(.seq (.region [qMov s0 w88,
seqO (r_call 68 [s88] 0 89) w89,
seqO (r_nilCheck s89 0 90) w90,
qFad 1 s90 w91,
qLd s91 w92,
qBin bAdd .add s92 (cu 1) w93,
seqO (r_nilCheck s89 0 94) w94,
qFad 1 s94 w95,
seqO (r_store 1 s95 s93 0 0) wN] 9)
(.seq (.region [seqO (r_build [b0,i0] [] 0 96) w96,
seqO (r_store 2 s2 s96 0 0) wN] 2)
.ret)))))))))),true⟩
def q70:QFn:=⟨1,[.cell s2 2 true],
(.seq (.region [seqO (r_alloc [b0,i0] 0 2) w2] 1)
(.seq (.region [qMov s0 w6,
seqO (r_nilCheck s6 0 7) w7,
qFad 0 s7 w8,
qFad 10 s8 w9,
qLd s9 w10,
seqO (r_len s10 0 11) w11,
qMov s11 w3] 7)
(.seq (.seq (.region [qMov s3 w12,
qMov s0 w13,
seqO (r_nilCheck s13 0 14) w14,
qFad 0 s14 w15,
qFad 3 s15 w16,
qFad 3 s16 w17,
qLd s17 w18,
qBin bGeq .geq s12 s18 w19] 8)
(.cond s19 (.seq (.region [seqO (r_build [b0,i0] [(0,1,(cb 6))] 0 20) w20,
seqO (r_store 2 s2 s20 0 0) wN] 2)
.ret)
.skip))
(.seq (.region [qMov s0 w21,
qMov s0 w22,
seqO (r_nilCheck s22 0 23) w23,
qFad 18 s23 w24,
qFad 1 s24 w25,
qLd s25 w26,
seqO (r_call 66 [s21,s26] 0 27) w27,
qMov s27 w4] 8)
(.seq (.region [qMov s3 w28,
qBin bAdd .add s28 (cn 1) w29,
seqO (r_conv .u64 s29 0 30) w30,
qBin (bGen .mul) .mul (cu 16777216) s30 w31,
qMov s31 w5] 5)
(.seq (.region [qMov s0 w32,
qMov s0 w33,
seqO (r_nilCheck s33 0 34) w34,
qFad 0 s34 w35,
qFad 9 s35 w36,
qLd s36 w37,
qMov s5 w38,
seqO (r_build [u0,oF] [(0,1,s38)] 0 39) w39,
seqO (r_buildSlice 2 1 [du,(.sl [])] [(0,s39)] 0 40) w40,
seqO (r_append 2 32 s37 s40 11 41) w41,
seqO (r_nilCheck s32 0 42) w42,
qFad 0 s42 w43,
qFad 9 s43 w44,
seqO (r_store 1 s44 s41 0 0) wN] 14)
(.seq (.region [qMov s0 w45,
qMov s0 w46,
seqO (r_nilCheck s46 0 47) w47,
qFad 0 s47 w48,
qFad 10 s48 w49,
qLd s49 w50,
qMov s5 w51,
seqO (r_build [b0,u0,u0,u0,u0,i0] [(0,1,(cb 1)),(2,1,s51)] 0 52) w52,
seqO (r_buildSlice 6 1 [db,du,du,du,du,di] [(0,s52)] 0 53) w53,
seqO (fr fun d=>r_append 6 48 s50 s53 296091653 d) w54,
seqO (r_nilCheck s45 0 55) w55,
qFad 0 s55 w56,
qFad 10 s56 w57,
seqO (r_store 1 s57 s54 0 0) wN] 14)
(.seq (.region [qMov s0 w58,
seqO (r_call 68 [s58] 0 59) w59,
seqO (r_nilCheck s59 0 60) w60,
qFad 1 s60 w61,
qLd s61 w62,
qBin bAdd .add s62 (cu 1) w63,
seqO (r_nilCheck s59 0 64) w64,
qFad 1 s64 w65,
seqO (r_store 1 s65 s63 0 0) wN] 9)
(.seq (.region [qMov s0 w66,
qMov s3 w67,
qMov s0 w68,
seqO (r_nilCheck s68 0 69) w69,
qFad 18 s69 w70,
qFad 1 s70 w71,
qLd s71 w72,
qMov s4 w73,
seqO (r_call 67 [s66,s67,s72,(cu 0),(cu 0),(cu 0),s73] 0 74) w74,
seqO (r_store 2 s2 s74 0 0) wN] 10)
.ret))))))))),true⟩
def q71:QFn:=⟨1,[.cell s2 2 true],
(.seq (.region [seqO (r_alloc [b0,i0] 0 2) w2] 1)
(.seq (.draw [⟨(r_mov s0 0 7),w7,0⟩,
⟨(r_nilCheck s7 0 8),w8,1⟩,
⟨(r_fieldAddr 0 s8 0 9),w9,3⟩,
⟨(r_fieldAddr 7 s9 0 10),w10,7⟩,
⟨(r_load 2 true s10 0 11),w11,15⟩,
⟨(r_mov s0 0 12),w12,0⟩,
⟨(r_call 68 [s12] 1151798903234887680 13),w13,32⟩,
⟨(r_nilCheck s13 0 14),w14,96⟩,
⟨(r_fieldAddr 3 s14 0 15),w15,224⟩,
⟨(r_load 1 false s15 0 16),w16,480⟩,
⟨(r_mov s0 0 17),w17,0⟩,
⟨(r_nilCheck s17 0 18),w18,1024⟩,
⟨(r_fieldAddr 13 s18 0 19),w19,3072⟩,
⟨(r_fieldAddr 0 s19 0 20),w20,7168⟩,
⟨(r_load 1 false s20 0 21),w21,15360⟩,
⟨(r_callF 138 [s11,s16,s21] 0 22),w22,32767⟩,
⟨(r_mov s22 0 6),w6,65535⟩,
⟨(r_extract s6 0 0 23),w23,131071⟩,
⟨(r_extract s6 1 0 24),w24,131071⟩,
⟨(r_extract s6 2 0 25),w25,131071⟩,
⟨(r_alloc [u0,u0,i0,(.d (.sc (.bool false))),u0] 0 3),w3,0⟩,
⟨(r_store 5 s3 s23 0 0),wN,1310719⟩,
⟨(r_mov s24 0 4),w4,3670015⟩,
⟨(r_mov s25 0 5),w5,8388607⟩] 24)
(.seq (.seq (.region [qMov s5 w26,
qBin bNeq .neq s26 (cn 0) w27] 2)
(.cond s27 (.seq (.region [seqO (r_callF 130 [] 0 28) w28,
seqO (r_store 2 s2 s28 0 0) wN] 2)
.ret)
.skip))
(.seq (.seq (.region [qMov s4 w29] 1)
(.cond s29 (.seq (.region [qMov s0 w30,
seqO (r_load 5 true s3 0 31) w31,
seqO (r_call 139 [s30,s31,(cu 1),(cu 0)] 0 32) w32,
seqO (r_store 2 s2 s32 0 0) wN] 4)
.ret)
.skip))
(.seq (.region [qMov s0 w33,
seqO (r_call 140 [s33] 0 34) w34,
seqO (r_store 2 s2 s34 0 0) wN] 3)
.ret))))),true⟩
def q72:QFn:=⟨1,[.cell s2 7 true],
(.seq (.region [seqO (r_alloc [u0,u0,u0,u0,u0,u0,u0] 0 2) w2] 1)
(.seq (.seq (.region [qMov s0 w7,
seqO (r_nilCheck s7 0 8) w8,
qFad 18 s8 w9,
qFad 0 s9 w10,
qLd s10 w11,
qBin bEql .eql s11 (cb 30) w12] 6)
(.cond s12 (.seq (.region [seqO (r_build [u0,u0,u0,u0,u0,u0,u0] [(4,1,(cu 2))] 0 13) w13,
seqO (r_store 7 s2 s13 0 0) wN] 2)
.ret)
.skip))
(.seq (.draw [⟨(r_mov s0 0 15),w15,0⟩,
⟨(r_mov s0 0 16),w16,0⟩,
⟨(r_nilCheck s16 0 17),w17,2⟩,
⟨(r_fieldAddr 13 s17 0 18),w18,6⟩,
⟨(r_load 5 true s18 0 19),w19,14⟩,
⟨(r_mov s0 0 20),w20,0⟩,
⟨(r_nilCheck s20 0 21),w21,32⟩,
⟨(r_fieldAddr 18 s21 0 22),w22,96⟩,
⟨(r_fieldAddr 1 s22 0 23),w23,224⟩,
⟨(r_load 1 false s23 0 24),w24,480⟩,
⟨(r_call 141 [s15,s19,s24] 0 25),w25,1023⟩,
⟨(r_mov s25 0 14),w14,2047⟩,
⟨(r_extract s14 0 0 26),w26,4095⟩,
⟨(r_extract s14 1 0 27),w27,4095⟩,
⟨(r_extract s14 2 0 28),w28,4095⟩,
⟨(r_mov s26 0 3),w3,8191⟩,
⟨(r_mov s27 0 4),w4,49151⟩,
⟨(r_mov s28 0 5),w5,131071⟩] 18)
(.seq (.draw [⟨(r_mov s0 0 29),w29,0⟩,
⟨(r_nilCheck s29 0 30),w30,1⟩,
⟨(r_fieldAddr 0 s30 0 31),w31,3⟩,
⟨(r_fieldAddr 9 s31 0 32),w32,7⟩,
⟨(r_load 1 false s32 0 33),w33,15⟩,
⟨(r_mov s0 0 34),w34,0⟩,
⟨(r_nilCheck s34 0 35),w35,32⟩,
⟨(r_fieldAddr 12 s35 0 36),w36,96⟩,
⟨(r_load 1 false s36 0 37),w37,224⟩,
⟨(r_indexAddr 2 s33 s37 0 38),w38,511⟩,
⟨(r_fieldAddr 1 s38 0 39),w39,1023⟩,
⟨(r_load 1 false s39 0 40),w40,2047⟩,
⟨(r_mov s3 0 41),w41,0⟩,
⟨(r_slice 1 s40 (some s41) none none 0 42),w42,8191⟩,
⟨(r_mov s4 0 43),w43,0⟩,
⟨(r_slice 1 s42 none (some s43) none 0 44),w44,32767⟩,
⟨(r_mov s44 0 6),w6,65535⟩] 17)
(.seq (.seq (.region [qMov s0 w45,
seqO (r_nilCheck s45 0 46) w46,
qFad 0 s46 w47,
qFad 0 s47 w48,
qFad 0 s48 w49,
qLd s49 w50,
qMov s5 w51,
seqO (r_indexAddr 4 s50 s51 0 52) w52,
qFad 0 s52 w53,
qLd s53 w54] 10)
(.block 0 (.seq (.region [qBin bEql .eql s54 (cb 1) w56,
qMov s56 w55] 2)
(.cond s55 (.seq (.region [qMov s6 w57,
seqO (r_indexAddr 1 s57 (cn 0) 0 58) w58,
qLd s58 w59,
seqO (r_conv .u64 s59 0 60) w60,
seqO (r_build [u0,u0,u0,u0,u0,u0,u0] [(1,1,(cu 2)),(2,1,s60)] 0 61) w61,
seqO (r_store 7 s2 s61 0 0) wN] 6)
.ret)
(.seq (.region [qBin bEql .eql s54 (cb 3) w63,
qMov s63 w62] 2)
(.cond s62 (.seq (.draw [⟨(r_mov s6 0 64),w64,0⟩,
⟨(r_callF 136 [s64] 0 65),w65,1⟩,
⟨(r_mov s6 0 66),w66,0⟩,
⟨(r_slice 1 s66 (some (cn 8)) none none 0 67),w67,4⟩,
⟨(r_callF 136 [s67] 0 68),w68,15⟩,
⟨(r_build [u0,u0,u0,u0,u0,u0,u0] [(1,1,(cu 3)),(2,1,s65),(3,1,s68)] 0 69),w69,31⟩,
⟨(r_store 7 s2 s69 0 0),wN,63⟩] 7)
.ret)
.skip))))))
(.seq (.region [qMov s6 w70,
seqO (r_callF 136 [s70] 0 71) w71,
seqO (r_build [u0,u0,u0,u0,u0,u0,u0] [(1,1,(cu 1)),(2,1,s71)] 0 72) w72,
seqO (r_store 7 s2 s72 0 0) wN] 4)
.ret)))))),true⟩
def q76:QFn:=⟨2,[.t s4,.t s5],
(.seq (.region [seqO (r_box s0 0 2) w2,
qMov (cn 0) w4,
qMov (cn 0) w5] 3)
(.seq (.seq (.region [seqO (r_load 2 true s2 0 7) w7,
qMov s1 w8,
seqO (r_callF 142 [s7,s8] 0 9) w9,
qMov s9 w6] 4)
(.seq (.region [qMov s6 w10,
qBin bNeq .neq s10 (cn 0) w11] 2)
(.cond s11 (.seq (.region [qMov s6 w12,
qMov (cn 0) w4,
qMov s12 w5] 3)
.ret)
.skip)))
(.seq (.region [qMov s1 w13,
qFad 1 s2 w14,
qLd s14 w15,
seqO (r_len s15 0 16) w16,
qBin bSub .sub s13 s16 w17,
qBin (bGen .quo) .quo s17 (cn 8) w18,
qBin (bGen .mul) .mul s18 (cn 8) w19,
seqO (r_maxi (cn 0) s19 0 20) w20,
qMov s20 w4,
qMov (cn 0) w5] 10)
.ret))),false⟩
def q77:QFn:=⟨2,[.cell s4 5 true,.t s5],
(.seq (.region [seqO (r_box s0 0 2) w2,
seqO (r_alloc [u0,u0,i0,(.d (.sc (.bool false))),u0] 0 4) w4,
qMov (cn 0) w5] 3)
(.seq (.seq (.region [seqO (r_load 2 true s2 0 13) w13,
seqO (r_callF 76 [s13,(cn 0)] 0 14) w14,
qMov s14 w12,
seqO (r_extract s12 0 0 15) w15,
seqO (r_extract s12 1 0 16) w16,
qMov s15 w6,
qMov s16 w7] 7)
(.seq (.region [qMov s7 w17,
qBin bNeq .neq s17 (cn 0) w18] 2)
(.cond s18 (.seq (.region [seqO (r_build [u0,u0,i0,(.d (.sc (.bool false))),u0] [] 0 19) w19,
qMov s7 w20,
seqO (r_store 5 s4 s19 0 0) wN,
qMov s20 w5] 4)
.ret)
.skip)))
(.seq (.seq (.region [seqO (r_load 2 true s2 0 22) w22,
qMov s1 w23,
seqO (r_callF 143 [s22,s23,(cn 40)] 0 24) w24,
qMov s24 w21,
seqO (r_extract s21 0 0 25) w25,
seqO (r_extract s21 1 0 26) w26,
qMov s25 w8,
qMov s26 w9] 8)
(.seq (.region [qMov s8 w27,
seqO (r_un .not s27 0 28) w28,
qMov s28 w29,
gdO s29 false w30 (qMov s1 w30),
gdO s29 false w31 (qBin (bGen .rem) .rem s30 (cu 8) w31),
gdO s29 false w32 (qBin bNeq .neq s31 (cu 0) w32),
qPick s29 cT s32 w33] 7)
(.cond s33 (.seq (.region [seqO (r_build [u0,u0,i0,(.d (.sc (.bool false))),u0] [] 0 34) w34,
seqO (r_store 5 s4 s34 0 0) wN,
qMov (cn 16) w5] 3)
.ret)
.skip)))
(.seq (.region [seqO (r_alloc [u0,u0,u0,u0,u0] 0 10) w10] 1)
(.seq (.seq (.region [qMov (cn 0) w35] 1)
(.block 0 (.loop (.seq (.region [qBin bLss .lss s35 (cn 5) w36] 1)
(.seq (.cond s36 .skip
(.exit 0))
(.seq (.block 1 (.seq (.region [qMov s35 w37,
qMov s37 w11] 2)
(.region [qMov s11 w39,
seqO (r_load 2 true s2 0 40) w40,
qMov s1 w41,
qMov s11 w42,
qBin (bGen .mul) .mul (cn 8) s42 w43,
seqO (r_conv .u64 s43 0 44) w44,
qBin bAdd .add s41 s44 w45,
seqO (r_callF 144 [s40,s45,(cn 8)] 0 46) w46,
qMov s46 w38,
seqO (r_extract s38 0 0 47) w47,
seqO (r_extract s38 1 0 48) w48,
seqO (r_indexArr 5 1 s10 s39 0 49) w49,
seqO (r_store 1 s49 s47 0 0) wN] 13)))
(.region [qBin bAdd .add s35 (cn 1) w50,
qMov s50 w35] 2)))))))
(.seq (.seq (.region [seqO (r_indexArr 5 1 s10 (cn 2) 0 51) w51,
qLd s51 w52,
qBin bGeq .geq s52 (cu 32) w53,
qMov s53 w54,
gdO s54 false w55 (seqO (r_indexArr 5 1 s10 (cn 3) 0 55) w55),
gdO s54 false w56 (qLd s55 w56),
gdO s54 false w57 (qBin bGtr .gtr s56 (cu 1) w57),
qPick s54 cT s57 w58,
qMov s58 w59,
gdO s59 false w60 (seqO (r_indexArr 5 1 s10 (cn 3) 0 60) w60),
gdO s59 false w61 (qLd s60 w61),
gdO s59 false w62 (qBin bEql .eql s61 (cu 0) w62),
gdO s59 false w63 (qMov s62 w63),
gdO s63 true w64 (seqO (r_indexArr 5 1 s10 (cn 4) 0 64) w64),
gdO s63 true w65 (qLd s64 w65),
gdO s63 true w66 (qBin bNeq .neq s65 (cu 0) w66),
gdO s59 false w67 (qPick s63 s66 cF w67),
qPick s59 cT s67 w68] 18)
(.cond s68 (.seq (.region [seqO (r_build [u0,u0,i0,(.d (.sc (.bool false))),u0] [] 0 69) w69,
seqO (r_store 5 s4 s69 0 0) wN,
qMov (cn 12) w5] 3)
.ret)
.skip))
(.seq (.region [seqO (r_indexArr 5 1 s10 (cn 0) 0 70) w70,
qLd s70 w71,
seqO (r_indexArr 5 1 s10 (cn 1) 0 72) w72,
qLd s72 w73,
seqO (r_indexArr 5 1 s10 (cn 2) 0 74) w74,
qLd s74 w75,
seqO (r_conv .i64 s75 0 76) w76,
seqO (r_indexArr 5 1 s10 (cn 3) 0 77) w77,
qLd s77 w78,
qBin bEql .eql s78 (cu 1) w79,
seqO (r_indexArr 5 1 s10 (cn 4) 0 80) w80,
qLd s80 w81,
seqO (r_build [u0,u0,i0,(.d (.sc (.bool false))),u0] [(0,1,s71),(1,1,s73),(2,1,s76),(3,1,s79),(4,1,s81)] 0 82) w82,
seqO (r_store 5 s4 s82 0 0) wN,
qMov (cn 0) w5] 15)
.ret))))))),false⟩
def q78:QFn:=⟨1,[.t s2],
(.seq (.region [qMov cF w2] 1)
(.seq (.region [qMov s0 w3,
qBin bGeq .geq s3 (cu 8) w4,
qMov s4 w5,
gdO s5 true w6 (qMov s0 w6),
gdO s5 true w7 (qBin bLeq .leq s6 (cu 1099511627776) w7),
qPick s5 s7 cF w8,
qMov s8 w9,
gdO s9 true w10 (qMov s0 w10),
gdO s9 true w11 (qBin (bGen .rem) .rem s10 (cu 8) w11),
gdO s9 true w12 (qBin bEql .eql s11 (cu 0) w12),
qPick s9 s12 cF w13,
qMov s13 w2] 12)
.ret)),false⟩
def q79:QFn:=⟨1,[.t s2,.t s3,.t s4],
(.seq (.region [seqO (r_box s0 0 1) w1,
qMov (cn 0) w2,
qMov (cn 0) w3,
qMov (cn 0) w4] 4)
(.seq (.seq (.region [seqO (r_load 3 true s1 0 9) w9,
seqO (r_callF 55 [s9] 0 10) w10,
qMov s10 w5] 3)
(.seq (.region [qMov s5 w11,
qBin bNeq .neq s11 (cn 0) w12] 2)
(.cond s12 (.seq (.region [qMov s5 w13,
qMov (cn 0) w2,
qMov (cn 0) w3,
qMov s13 w4] 4)
.ret)
.skip)))
(.seq (.seq (.region [qMov (cn 0) w6] 1)
(.block 0 (.loop (.seq (.seq (.region [qMov s6 w14,
qFad 2 s1 w15,
qLd s15 w16,
seqO (r_len s16 0 17) w17,
qBin bLss .lss s14 s17 w18] 5)
(.cond s18 .skip
(.exit 0)))
(.seq (.block 1 (.seq (.region [seqO (r_load 3 true s1 0 22) w22,
qMov s6 w23,
seqO (r_callF 145 [s22,s23] 0 24) w24,
qMov s24 w21,
seqO (r_extract s21 0 0 25) w25,
seqO (r_extract s21 1 0 26) w26,
qMov s25 w7,
qMov s26 w8] 8)
(.seq (.region [qMov s8 w27,
qBin bNeq .neq s27 (cn 0) w28] 2)
(.cond s28 (.seq (.region [qMov s6 w29,
qMov s7 w30,
qMov s8 w31,
qMov s29 w2,
qMov s30 w3,
qMov s31 w4] 6)
.ret)
.skip))))
(.region [qMov s6 w19,
qBin bAdd .add s19 (cn 1) w20,
qMov s20 w6] 3))))))
(.seq (.region [qMov (cn 0) w2,
qMov (cn 0) w3,
qMov (cn 0) w4] 3)
.ret)))),false⟩
def q80:QFn:=⟨1,[.t s2],
(.seq (.region [seqO (r_box s0 0 1) w1,
qMov (cn 0) w2] 2)
(.seq (.seq (.region [qFad 0 s1 w4,
qLd s4 w5,
seqO (r_len s5 0 6) w6,
qBin bGtr .gtr s6 (cn 2000) w7,
qMov s7 w8,
gdO s8 false w9 (qFad 1 s1 w9),
gdO s8 false w10 (seqO (r_load 4 true s9 0 10) w10),
gdO s8 false w11 (seqO (r_callF 146 [s10] 0 11) w11),
gdO s8 false w12 (seqO (r_un .not s11 0 12) w12),
qPick s8 cT s12 w13] 10)
(.cond s13 (.seq (.region [qMov (cn 8) w2] 1)
.ret)
.skip))
(.seq (.seq (.region [qMov (cn 0) w3] 1)
(.block 0 (.loop (.seq (.seq (.region [qMov s3 w14,
qFad 0 s1 w15,
qLd s15 w16,
seqO (r_len s16 0 17) w17,
qBin bLss .lss s14 s17 w18] 5)
(.cond s18 .skip
(.exit 0)))
(.seq (.block 1 (.seq (.region [qFad 0 s1 w21,
qLd s21 w22,
qMov s3 w23,
seqO (r_indexAddr 1 s22 s23 0 24) w24,
qLd s24 w25,
qBin bLss .lss s25 (cn 0) w26,
qMov s26 w27,
gdO s27 false w28 (qFad 0 s1 w28),
gdO s27 false w29 (qLd s28 w29),
gdO s27 false w30 (qMov s3 w30),
gdO s27 false w31 (seqO (r_indexAddr 1 s29 s30 0 31) w31),
gdO s27 false w32 (qLd s31 w32),
gdO s27 false w33 (qBin bGtr .gtr s32 (cn 65535) w33),
qPick s27 cT s33 w34] 14)
(.cond s34 (.seq (.region [qMov (cn 8) w2] 1)
.ret)
.skip)))
(.region [qMov s3 w19,
qBin bAdd .add s19 (cn 1) w20,
qMov s20 w3] 3))))))
(.seq (.region [qMov (cn 0) w2] 1)
.ret)))),false⟩
def q81:QFn:=⟨2,[.t s4],
(.seq (.region [seqO (r_box s1 0 3) w3,
qMov cF w4] 2)
(.seq (.seq (.region [qFad 0 s3 w5,
qLd s5 w6] 2)
(.block 0 (.seq (.region [qBin bEql .eql s6 (cb 1) w8,
qMov s8 w7] 2)
(.cond s7 (.seq (.region [qFad 5 s3 w9,
qLd s9 w10,
qBin bNeq .neq s10 (cn 0) w11] 3)
(.cond s11 (.seq (.region [qMov cF w4] 1)
.ret)
.skip))
(.seq (.region [qBin bEql .eql s6 (cb 2) w13,
qMov s13 w12] 2)
(.cond s12 .skip
(.seq (.region [qBin bEql .eql s6 (cb 3) w15,
qMov s15 w14] 2)
(.cond s14 (.seq (.draw [⟨(r_fieldAddr 1 s3 0 16),w16,0⟩,
⟨(r_load 1 false s16 0 17),w17,1⟩,
⟨(r_bin .eql s17 (cu 0) 0 18),w18,3⟩,
⟨(r_mov s18 0 19),w19,7⟩,
⟨gdR s19 true (r_fieldAddr 2 s3 0 20),w20,15⟩,
⟨gdR s19 true (r_load 1 false s20 0 21),w21,31⟩,
⟨gdR s19 true (r_mov s0 0 22),w22,15⟩,
⟨gdR s19 true (r_callF 18 [s22] 0 23),w23,79⟩,
⟨gdR s19 true (r_bin .eql s21 s23 0 24),w24,255⟩,
⟨(r_pick s19 s24 cF 0 25),w25,511⟩,
⟨(r_mov s25 0 26),w26,1023⟩,
⟨gdR s26 true (r_fieldAddr 3 s3 0 27),w27,2047⟩,
⟨gdR s26 true (r_load 1 false s27 0 28),w28,4095⟩,
⟨gdR s26 true (r_bin .eql s28 (cu 0) 0 29),w29,8191⟩,
⟨(r_pick s26 s29 cF 0 30),w30,16383⟩,
⟨(r_mov s30 0 31),w31,32767⟩,
⟨gdR s31 true (r_fieldAddr 4 s3 0 32),w32,65535⟩,
⟨gdR s31 true (r_load 1 false s32 0 33),w33,131071⟩,
⟨gdR s31 true (r_bin .eql s33 (cu 0) 0 34),w34,262143⟩,
⟨(r_pick s31 s34 cF 0 35),w35,524287⟩,
⟨(r_mov s35 0 36),w36,1048575⟩,
⟨gdR s36 true (r_fieldAddr 5 s3 0 37),w37,2097151⟩,
⟨gdR s36 true (r_load 1 false s37 0 38),w38,4194303⟩,
⟨gdR s36 true (r_bin .eql s38 (cn 0) 0 39),w39,8388607⟩,
⟨(r_pick s36 s39 cF 0 40),w40,16777215⟩,
⟨(r_mov s40 0 4),w4,33554431⟩] 26)
.ret)
(.seq (.region [qMov cF w4] 1)
.ret)))))))))
(.seq (.draw [⟨(r_fieldAddr 1 s3 0 41),w41,0⟩,
⟨(r_load 1 false s41 0 42),w42,1⟩,
⟨(r_callF 147 [s42] 0 43),w43,3⟩,
⟨(r_mov s43 0 44),w44,7⟩,
⟨gdR s44 true (r_fieldAddr 2 s3 0 45),w45,15⟩,
⟨gdR s44 true (r_load 1 false s45 0 46),w46,31⟩,
⟨gdR s44 true (r_mov s0 0 47),w47,15⟩,
⟨gdR s44 true (r_callF 18 [s47] 0 48),w48,79⟩,
⟨gdR s44 true (r_bin .add s48 (cu 24) 0 49),w49,207⟩,
⟨gdR s44 true (r_bin .geq s46 s49 0 50),w50,511⟩,
⟨(r_pick s44 s50 cF 0 51),w51,1023⟩,
⟨(r_mov s51 0 52),w52,2047⟩,
⟨gdR s52 true (r_fieldAddr 2 s3 0 53),w53,4095⟩,
⟨gdR s52 true (r_load 1 false s53 0 54),w54,8191⟩,
⟨gdR s52 true (r_mov s0 0 55),w55,4095⟩,
⟨gdR s52 true (r_callF 18 [s55] 0 56),w56,20479⟩,
⟨gdR s52 true (r_bin .add s56 (cu 4096) 0 57),w57,53247⟩,
⟨gdR s52 true (r_bin .leq s54 s57 0 58),w58,131071⟩,
⟨(r_pick s52 s58 cF 0 59),w59,262143⟩,
⟨(r_mov s59 0 60),w60,524287⟩,
⟨gdR s60 true (r_fieldAddr 2 s3 0 61),w61,1048575⟩,
⟨gdR s60 true (r_load 1 false s61 0 62),w62,2097151⟩,
⟨gdR s60 true (r_bin .rem s62 (cu 8) 0 63),w63,4194303⟩,
⟨gdR s60 true (r_bin .eql s63 (cu 0) 0 64),w64,8388607⟩,
⟨(r_pick s60 s64 cF 0 65),w65,16777215⟩,
⟨(r_mov s65 0 66),w66,33554431⟩,
⟨gdR s66 true (r_fieldAddr 3 s3 0 67),w67,67108863⟩,
⟨gdR s66 true (r_load 1 false s67 0 68),w68,134217727⟩,
⟨gdR s66 true (r_callF 148 [s68] 0 69),w69,268435455⟩,
⟨(r_pick s66 s69 cF 0 70),w70,536870911⟩,
⟨(r_mov s70 0 71),w71,1073741823⟩,
⟨gdR s71 true (r_fieldAddr 4 s3 0 72),w72,2147483647⟩,
⟨gdR s71 true (r_load 1 false s72 0 73),w73,4294967295⟩,
⟨gdR s71 true (r_callF 148 [s73] 0 74),w74,8589934591⟩,
⟨(r_pick s71 s74 cF 0 75),w75,17179869183⟩,
⟨(r_mov s75 0 4),w4,34359738367⟩] 36)
.ret))),false⟩
def q82:QFn:=⟨2,[.t s4,.t s5,.t s6],
(.seq (.region [seqO (r_box s0 0 2) w2,
qMov (cn 0) w4,
qMov (cn 0) w5,
qMov cF w6] 4)
(.seq (.seq (.region [qMov s1 w9,
qBin bLss .lss s9 (cu 256) w10,
qMov s10 w11,
gdO s11 false w12 (qMov s1 w12),
gdO s11 false w13 (qFad 2 s2 w13),
gdO s11 false w14 (qLd s13 w14),
gdO s11 false w15 (seqO (r_len s14 0 15) w15),
gdO s11 false w16 (qBin bAdd .add s15 (cn 1) w16),
gdO s11 false w17 (qBin (bGen .mul) .mul (cn 256) s16 w17),
gdO s11 false w18 (seqO (r_conv .u64 s17 0 18) w18),
gdO s11 false w19 (qBin bGeq .geq s12 s18 w19),
qPick s11 cT s19 w20] 12)
(.cond s20 (.seq (.region [qMov (cn 0) w4,
qMov (cn 0) w5,
qMov cF w6] 3)
.ret)
.skip))
(.seq (.region [qMov s1 w21,
qBin (bGen .quo) .quo s21 (cu 256) w22,
seqO (r_conv .i64 s22 0 23) w23,
qBin bSub .sub s23 (cn 1) w24,
qMov s1 w25,
qBin (bGen .rem) .rem s25 (cu 256) w26,
seqO (r_conv .i64 s26 0 27) w27,
qMov s24 w7,
qMov s27 w8] 9)
(.seq (.seq (.region [qMov s8 w28,
qFad 2 s2 w29,
qLd s29 w30,
qMov s7 w31,
seqO (r_indexAddr 7 s30 s31 0 32) w32,
qFad 4 s32 w33,
qLd s33 w34,
seqO (r_len s34 0 35) w35,
qBin bGeq .geq s28 s35 w36] 9)
(.cond s36 (.seq (.region [qMov (cn 0) w4,
qMov (cn 0) w5,
qMov cF w6] 3)
.ret)
.skip))
(.seq (.region [qMov s7 w37,
qMov s8 w38,
qMov s37 w4,
qMov s38 w5,
qMov cT w6] 5)
.ret))))),false⟩
def q83:QFn:=⟨3,[.t s6],
(.seq (.region [seqO (r_box s0 0 3) w3,
qMov (cn 0) w6] 2)
(.seq (.region [seqO (r_load 3 true s3 0 11) w11,
qMov s1 w12,
seqO (r_call 50 [s11,s12] 0 13) w13,
qMov s13 w10,
seqO (r_extract s10 0 0 14) w14,
seqO (r_extract s10 1 0 15) w15,
qMov s14 w7,
qMov s15 w8] 8)
(.seq (.region [qFad 2 s3 w16,
qLd s16 w17,
qMov s1 w18,
seqO (r_indexAddr 7 s17 s18 0 19) w19,
qFad 5 s19 w20,
qLd s20 w21,
qMov s2 w22,
seqO (r_callF 149 [s21,s22] 0 23) w23,
qMov s23 w9] 9)
(.seq (.seq (.region [qMov s9 w24,
qBin bGtr .gtr s24 (cu 4096) w25] 2)
(.cond s25 (.seq (.region [qMov (cn 4097) w6] 1)
.ret)
.skip))
(.seq (.region [qMov s8 w26,
qMov s9 w27,
seqO (r_conv .i64 s27 0 28) w28,
qBin bAdd .add s26 s28 w29,
qMov s29 w6] 5)
.ret))))),false⟩
def q84:QFn:=⟨2,[.t s4,.t s5,.t s6,.t s7],
(.seq (.region [seqO (r_box s0 0 2) w2,
qMov (cu 0) w4,
qMov (cu 0) w5,
qMov (cu 0) w6,
qMov (cn 0) w7] 5)
(.seq (.seq (.region [seqO (r_load 2 true s2 0 11) w11,
seqO (r_callF 41 [s11] 0 12) w12,
seqO (r_un .not s12 0 13) w13] 3)
(.cond s13 (.seq (.region [qMov (cu 0) w4,
qMov (cu 0) w5,
qMov (cu 0) w6,
qMov (cn 8) w7] 4)
.ret)
.skip))
(.seq (.seq (.region [qMov s1 w14,
qBin (bGen .rem) .rem s14 (cu 8) w15,
qBin bNeq .neq s15 (cu 0) w16,
qMov s16 w17,
gdO s17 false w18 (seqO (r_load 2 true s2 0 18) w18),
gdO s17 false w19 (qMov s1 w19),
gdO s17 false w20 (seqO (r_callF 150 [s18,s19,(cn 24)] 0 20) w20),
gdO s17 false w21 (seqO (r_un .not s20 0 21) w21),
qPick s17 cT s21 w22] 9)
(.cond s22 (.seq (.region [qMov (cu 0) w4,
qMov (cu 0) w5,
qMov (cu 0) w6,
qMov (cn 16) w7] 4)
.ret)
.skip))
(.seq (.draw [⟨(r_load 2 true s2 0 23),w23,0⟩,
⟨(r_mov s1 0 24),w24,0⟩,
⟨(r_callF 151 [s23,s24,(cn 8)] 0 25),w25,3⟩,
⟨(r_load 2 true s2 0 26),w26,0⟩,
⟨(r_mov s1 0 27),w27,0⟩,
⟨(r_bin .add s27 (cu 8) 0 28),w28,16⟩,
⟨(r_callF 151 [s26,s28,(cn 8)] 0 29),w29,63⟩,
⟨(r_load 2 true s2 0 30),w30,0⟩,
⟨(r_mov s1 0 31),w31,0⟩,
⟨(r_bin .add s31 (cu 16) 0 32),w32,256⟩,
⟨(r_callF 151 [s30,s32,(cn 8)] 0 33),w33,1023⟩,
⟨(r_mov s25 0 8),w8,2047⟩,
⟨(r_mov s29 0 9),w9,4095⟩,
⟨(r_mov s33 0 10),w10,8191⟩] 14)
(.seq (.seq (.region [qMov s9 w34,
qMov s10 w35,
seqO (r_callF 152 [s34,s35] 0 36) w36,
seqO (r_un .not s36 0 37) w37] 4)
(.cond s37 (.seq (.region [qMov (cu 0) w4,
qMov (cu 0) w5,
qMov (cu 0) w6,
qMov (cn 12) w7] 4)
.ret)
.skip))
(.seq (.region [qMov s8 w38,
qMov s9 w39,
qMov s10 w40,
qMov s38 w4,
qMov s39 w5,
qMov s40 w6,
qMov (cn 0) w7] 7)
.ret)))))),false⟩
def q85:QFn:=⟨1,[.t s2],
(.seq (.region [qMov (cK (.d (.sc (.string ⟨#[]⟩)))) w2] 1)
(.seq (.region [qMov s0 w4,
qBin (bGen .rem) .rem s4 (cn 10) w5,
qBin bAdd .add (cn 48) s5 w6,
seqO (r_conv .u8 s6 0 7) w7,
seqO (r_buildSlice 1 1 [db] [(0,s7)] 0 8) w8,
seqO (r_b2s s8 0 9) w9,
qMov s9 w3] 7)
(.seq (.seq (.region [qMov s0 w10,
qBin bGeq .geq s10 (cn 10) w11] 2)
(.cond s11 (.seq (.region [qMov s0 w12,
qBin (bGen .quo) .quo s12 (cn 10) w13,
qBin bAdd .add (cn 48) s13 w14,
seqO (r_conv .u8 s14 0 15) w15,
seqO (r_buildSlice 1 1 [db] [(0,s15)] 0 16) w16,
seqO (r_b2s s16 0 17) w17,
qMov s3 w18,
qBin bAdd .add s17 s18 w19,
qMov s19 w2] 9)
.ret)
.skip))
(.seq (.region [qMov s3 w20,
qMov s20 w2] 2)
.ret)))),false⟩
def q86:QFn:=⟨2,[.t s4],
(.seq (.region [qMov cF w4] 1)
(.seq (.seq (.region [qMov s0 w6,
seqO (r_len s6 0 7) w7,
qMov s1 w8,
seqO (r_len s8 0 9) w9,
qBin bNeq .neq s7 s9 w10] 5)
(.cond s10 (.seq (.region [qMov cF w4] 1)
.ret)
.skip))
(.seq (.seq (.region [qMov (cn 0) w5] 1)
(.block 0 (.loop (.seq (.seq (.region [qMov s5 w11,
qMov s0 w12,
seqO (r_len s12 0 13) w13,
qBin bLss .lss s11 s13 w14] 4)
(.cond s14 .skip
(.exit 0)))
(.seq (.block 1 (.seq (.draw [⟨(r_mov s0 0 17),w17,0⟩,
⟨(r_mov s5 0 18),w18,0⟩,
⟨(r_indexAddr 4 s17 s18 0 19),w19,3⟩,
⟨(r_fieldAddr 0 s19 0 20),w20,7⟩,
⟨(r_load 1 false s20 0 21),w21,15⟩,
⟨(r_mov s1 0 22),w22,0⟩,
⟨(r_mov s5 0 23),w23,0⟩,
⟨(r_indexAddr 4 s22 s23 0 24),w24,96⟩,
⟨(r_fieldAddr 0 s24 0 25),w25,224⟩,
⟨(r_load 1 false s25 0 26),w26,480⟩,
⟨(r_bin .neq s21 s26 0 27),w27,1023⟩,
⟨(r_mov s27 0 28),w28,2047⟩,
⟨gdR s28 false (r_mov s0 0 29),w29,4095⟩,
⟨gdR s28 false (r_mov s5 0 30),w30,4095⟩,
⟨gdR s28 false (r_indexAddr 4 s29 s30 0 31),w31,16383⟩,
⟨gdR s28 false (r_fieldAddr 1 s31 0 32),w32,32767⟩,
⟨gdR s28 false (r_load 1 false s32 0 33),w33,65535⟩,
⟨gdR s28 false (r_mov s1 0 34),w34,4095⟩,
⟨gdR s28 false (r_mov s5 0 35),w35,4095⟩,
⟨gdR s28 false (r_indexAddr 4 s34 s35 0 36),w36,397311⟩,
⟨gdR s28 false (r_fieldAddr 1 s36 0 37),w37,921599⟩,
⟨gdR s28 false (r_load 1 false s37 0 38),w38,1970175⟩,
⟨gdR s28 false (r_bin .neq s33 s38 0 39),w39,4194303⟩,
⟨(r_pick s28 cT s39 0 40),w40,8388607⟩,
⟨(r_mov s40 0 41),w41,16777215⟩,
⟨gdR s41 false (r_mov s0 0 42),w42,33554431⟩,
⟨gdR s41 false (r_mov s5 0 43),w43,33554431⟩,
⟨gdR s41 false (r_indexAddr 4 s42 s43 0 44),w44,134217727⟩,
⟨gdR s41 false (r_fieldAddr 2 s44 0 45),w45,268435455⟩,
⟨gdR s41 false (r_load 1 false s45 0 46),w46,536870911⟩,
⟨gdR s41 false (r_mov s1 0 47),w47,33554431⟩,
⟨gdR s41 false (r_mov s5 0 48),w48,33554431⟩,
⟨gdR s41 false (r_indexAddr 4 s47 s48 0 49),w49,3254779903⟩,
⟨gdR s41 false (r_fieldAddr 2 s49 0 50),w50,7549747199⟩,
⟨gdR s41 false (r_load 1 false s50 0 51),w51,16139681791⟩,
⟨gdR s41 false (r_bin .neq s46 s51 0 52),w52,34359738367⟩,
⟨(r_pick s41 cT s52 0 53),w53,68719476735⟩,
⟨(r_mov s53 0 54),w54,137438953471⟩,
⟨gdR s54 false (r_mov s0 0 55),w55,274877906943⟩,
⟨gdR s54 false (r_mov s5 0 56),w56,274877906943⟩,
⟨gdR s54 false (r_indexAddr 4 s55 s56 0 57),w57,1099511627775⟩,
⟨gdR s54 false (r_fieldAddr 3 s57 0 58),w58,2199023255551⟩,
⟨gdR s54 false (r_load 1 false s58 0 59),w59,4398046511103⟩,
⟨gdR s54 false (r_mov s1 0 60),w60,274877906943⟩,
⟨gdR s54 false (r_mov s5 0 61),w61,274877906943⟩,
⟨gdR s54 false (r_indexAddr 4 s60 s61 0 62),w62,26663156973567⟩,
⟨gdR s54 false (r_fieldAddr 3 s62 0 63),w63,61847529062399⟩,
⟨gdR s54 false (r_load 1 false s63 0 64),w64,132216273240063⟩,
⟨gdR s54 false (r_callF 153 [s59,s64] 0 65),w65,281474976710655⟩,
⟨gdR s54 false (r_un .not s65 0 66),w66,562949953421311⟩,
⟨(r_pick s54 cT s66 0 67),w67,1125899906842623⟩] 51)
(.cond s67 (.seq (.region [qMov cF w4] 1)
.ret)
.skip)))
(.region [qMov s5 w15,
qBin bAdd .add s15 (cn 1) w16,
qMov s16 w5] 3))))))
(.seq (.region [qMov cT w4] 1)
.ret)))),false⟩
def q87:QFn:=⟨2,[.t s4],
(.seq (.region [seqO (r_box s0 0 2) w2,
seqO (r_box s1 0 3) w3,
qMov cF w4] 3)
(.seq (.region [qFad 0 s2 w5,
qLd s5 w6,
qFad 0 s3 w7,
qLd s7 w8,
qBin bEql .eql s6 s8 w9,
qMov s9 w10,
gdO s10 true w11 (qFad 1 s2 w11),
gdO s10 true w12 (qLd s11 w12),
gdO s10 true w13 (qFad 1 s3 w13),
gdO s10 true w14 (qLd s13 w14),
gdO s10 true w15 (qBin bEql .eql s12 s14 w15),
qPick s10 s15 cF w16,
qMov s16 w17,
gdO s17 true w18 (qFad 2 s2 w18),
gdO s17 true w19 (qLd s18 w19),
gdO s17 true w20 (qFad 2 s3 w20),
gdO s17 true w21 (qLd s20 w21),
gdO s17 true w22 (qBin bEql .eql s19 s21 w22),
qPick s17 s22 cF w23,
qMov s23 w24,
gdO s24 true w25 (qFad 3 s2 w25),
gdO s24 true w26 (qLd s25 w26),
gdO s24 true w27 (qFad 3 s3 w27),
gdO s24 true w28 (qLd s27 w28),
gdO s24 true w29 (seqO (r_callF 153 [s26,s28] 0 29) w29),
qPick s24 s29 cF w30,
qMov s30 w31,
gdO s31 true w32 (qFad 4 s2 w32),
gdO s31 true w33 (qLd s32 w33),
gdO s31 true w34 (qFad 4 s3 w34),
gdO s31 true w35 (qLd s34 w35),
gdO s31 true w36 (seqO (r_callF 154 [s33,s35] 0 36) w36),
qPick s31 s36 cF w37,
qMov s37 w38,
gdO s38 true w39 (qFad 5 s2 w39),
gdO s38 true w40 (qLd s39 w40),
gdO s38 true w41 (qFad 5 s3 w41),
gdO s38 true w42 (qLd s41 w42),
gdO s38 true w43 (seqO (r_callF 155 [s40,s42] 0 43) w43),
qPick s38 s43 cF w44,
qMov s44 w45,
gdO s45 true w46 (qFad 6 s2 w46),
gdO s45 true w47 (qLd s46 w47),
gdO s45 true w48 (qFad 6 s3 w48),
gdO s45 true w49 (qLd s48 w49),
gdO s45 true w50 (seqO (r_callF 155 [s47,s49] 0 50) w50),
qPick s45 s50 cF w51,
qMov s51 w4] 48)
.ret)),false⟩
def q88:QFn:=⟨3,[.cell s6 2 true,.t s7,.t s8],
(.seq (.region [seqO (r_box s0 0 3) w3,
seqO (r_alloc [u0,oF] 0 6) w6,
qMov (cu 0) w7,
qMov (cn 0) w8] 4)
(.seq (.seq (.region [seqO (r_load 2 true s3 0 11) w11,
qMov s2 w12,
seqO (r_callF 156 [s11,s12] 0 13) w13,
qBin bNeq .neq s13 (cn 0) w14] 4)
(.cond s14 (.seq (.region [seqO (r_build [u0,oF] [] 0 15) w15,
seqO (r_load 2 true s3 0 16) w16,
qMov s2 w17,
seqO (r_callF 156 [s16,s17] 0 18) w18,
seqO (r_store 2 s6 s15 0 0) wN,
qMov (cu 0) w7,
qMov s18 w8] 7)
.ret)
.skip))
(.seq (.seq (.region [qMov s1 w19,
qBin bLss .lss s19 (cn 0) w20,
qMov s20 w21,
gdO s21 false w22 (qMov s1 w22),
gdO s21 false w23 (qBin bGtr .gtr s22 (cn 4096) w23),
qPick s21 cT s23 w24] 6)
(.cond s24 (.seq (.region [seqO (r_build [u0,oF] [] 0 25) w25,
seqO (r_store 2 s6 s25 0 0) wN,
qMov (cu 0) w7,
qMov (cn 2) w8] 4)
.ret)
.skip))
(.seq (.seq (.region [seqO (r_load 2 true s3 0 26) w26,
qMov s1 w27,
qMov s2 w28,
seqO (r_callF 157 [s26,s27,s28] 0 29) w29,
seqO (r_un .not s29 0 30) w30] 5)
(.cond s30 (.seq (.region [seqO (r_build [u0,oF] [] 0 31) w31,
seqO (r_store 2 s6 s31 0 0) wN,
qMov (cu 0) w7,
qMov (cn 18) w8] 4)
.ret)
.skip))
(.seq (.region [seqO (r_load 2 true s3 0 33) w33,
qMov s1 w34,
seqO (r_call 158 [s33,s34] 65538 35) w35,
qMov s35 w32,
seqO (r_extract s32 0 0 36) w36,
seqO (r_extract s32 1 0 37) w37,
seqO (r_alloc [u0,oF] 0 9) w9,
seqO (r_store 2 s9 s36 0 0) wN,
qMov s37 w10] 9)
(.seq (.region [seqO (r_load 2 true s9 0 38) w38,
qMov s10 w39,
seqO (r_store 2 s6 s38 0 0) wN,
qMov s39 w7,
qMov (cn 0) w8] 5)
.ret)))))),false⟩
def q89:QFn:=⟨2,[.t s4,.t s5,.t s6],
(.seq (.region [qMov (cK oF) w4,
qMov (cn 0) w5,
qMov (cn 0) w6] 3)
(.seq (.region [qMov s0 w10,
seqO (r_call 90 [s10] 0 11) w11,
qMov s11 w9,
seqO (r_extract s9 0 0 12) w12,
seqO (r_extract s9 1 0 13) w13,
qMov s12 w7,
qMov s13 w8] 7)
(.seq (.region [qMov s7 w14,
qMov s8 w15,
qMov s1 w16,
seqO (r_call 159 [s14,s15,s16] 0 17) w17,
seqO (r_extract s17 0 0 18) w18,
seqO (r_extract s17 1 0 19) w19,
seqO (r_extract s17 2 0 20) w20,
qMov s18 w4,
qMov s19 w5,
qMov s20 w6] 10)
.ret))),false⟩
def q90:QFn:=⟨1,[.t s2,.t s3],
(.seq (.region [qMov (cK oF) w2,
qMov (cK oF) w3] 2)
(.seq (.region [qMov (cK oF) w4,
qMov (cK oF) w5] 2)
(.seq (.seq (.region [qMov (cn 0) w6] 1)
(.block 0 (.loop (.seq (.seq (.region [qMov s6 w9,
qMov s0 w10,
seqO (r_len s10 0 11) w11,
qBin bLss .lss s9 s11 w12] 4)
(.cond s12 .skip
(.exit 0)))
(.seq (.block 1 (.seq (.region [qMov (cn 8) w7,
qMov (cn 8) w8] 2)
(.seq (.seq (.region [qMov s0 w15,
qMov s6 w16,
seqO (r_indexAddr 4 s15 s16 0 17) w17,
qFad 0 s17 w18,
qLd s18 w19] 5)
(.block 2 (.seq (.region [qBin bEql .eql s19 (cb 1) w21,
qMov s21 w20] 2)
(.cond s20 (.region [qMov (cn 1) w7,
qMov (cn 1) w8] 2)
(.seq (.region [qBin bEql .eql s19 (cb 3) w23,
qMov s23 w22] 2)
(.cond s22 (.region [qMov (cn 16) w7] 1)
(.seq (.region [qBin bEql .eql s19 (cb 7) w25,
qMov s25 w24] 2)
(.cond s24 (.region [qMov (cn 24) w7] 1)
(.seq (.region [qBin bEql .eql s19 (cb 6) w27,
qMov s27 w26] 2)
(.cond s26 (.draw [⟨(r_mov s0 0 28),w28,0⟩,
⟨(r_mov s6 0 29),w29,0⟩,
⟨(r_indexAddr 4 s28 s29 0 30),w30,3⟩,
⟨(r_fieldAddr 2 s30 0 31),w31,7⟩,
⟨(r_load 1 false s31 0 32),w32,15⟩,
⟨(r_mov s4 0 33),w33,0⟩,
⟨(r_mov s0 0 34),w34,0⟩,
⟨(r_mov s6 0 35),w35,0⟩,
⟨(r_indexAddr 4 s34 s35 0 36),w36,192⟩,
⟨(r_fieldAddr 1 s36 0 37),w37,448⟩,
⟨(r_load 1 false s37 0 38),w38,960⟩,
⟨(r_indexAddr 1 s33 s38 0 39),w39,2016⟩,
⟨(r_load 1 false s39 0 40),w40,4064⟩,
⟨(r_bin .mul s32 s40 0 41),w41,8191⟩,
⟨(r_mini (cn 1000000) s41 0 42),w42,16383⟩,
⟨(r_mov s5 0 43),w43,0⟩,
⟨(r_mov s0 0 44),w44,0⟩,
⟨(r_mov s6 0 45),w45,0⟩,
⟨(r_indexAddr 4 s44 s45 0 46),w46,196608⟩,
⟨(r_fieldAddr 1 s46 0 47),w47,458752⟩,
⟨(r_load 1 false s47 0 48),w48,983040⟩,
⟨(r_indexAddr 1 s43 s48 0 49),w49,2064384⟩,
⟨(r_load 1 false s49 0 50),w50,4161536⟩,
⟨(r_mov s42 0 7),w7,32767⟩,
⟨(r_mov s50 0 8),w8,16777215⟩] 25)
(.seq (.region [qBin bEql .eql s19 (cb 5) w52,
qMov s52 w51] 2)
(.cond s51 (.region [qMov s4 w54,
qMov s5 w55,
qMov s0 w56,
qMov s6 w57,
seqO (r_indexAddr 4 s56 s57 0 58) w58,
qFad 3 s58 w59,
qLd s59 w60,
seqO (r_call 159 [s54,s55,s60] 0 61) w61,
qMov s61 w53,
seqO (r_extract s53 0 0 62) w62,
seqO (r_extract s53 1 0 63) w63,
seqO (r_extract s53 2 0 64) w64,
qMov s63 w7,
qMov s64 w8] 14)
.skip))))))))))))
(.region [qMov s4 w65,
qMov s7 w66,
seqO (r_buildSlice 1 1 [di] [(0,s66)] 0 67) w67,
seqO (r_append 1 8 s65 s67 0 68) w68,
qMov s5 w69,
qMov s8 w70,
seqO (r_buildSlice 1 1 [di] [(0,s70)] 0 71) w71,
seqO (r_append 1 8 s69 s71 0 72) w72,
qMov s68 w4,
qMov s72 w5] 10))))
(.region [qMov s6 w13,
qBin bAdd .add s13 (cn 1) w14,
qMov s14 w6] 3))))))
(.seq (.region [qMov s4 w73,
qMov s5 w74,
qMov s73 w2,
qMov s74 w3] 4)
.ret)))),false⟩
def q91:QFn:=⟨2,[.t s4],
(.seq (.region [qMov (cn 0) w4] 1)
(.seq (.region [qMov s0 w5,
qMov s1 w6,
qBin bAdd .add s5 s6 w7,
qBin bSub .sub s7 (cn 1) w8,
qMov s1 w9,
qBin (bGen .quo) .quo s8 s9 w10,
qMov s1 w11,
qBin (bGen .mul) .mul s10 s11 w12,
qMov s12 w4] 9)
.ret)),false⟩
def q92:QFn:=⟨1,[.t s2],
(.seq (.region [seqO (r_box s0 0 1) w1,
qMov cF w2] 2)
(.seq (.seq (.region [qFad 0 s1 w9,
qLd s9 w10,
seqO (r_callF 160 [s10] 0 11) w11,
qBin bNeq .neq s11 (cn 0) w12,
qMov s12 w13,
gdO s13 false w14 (qFad 1 s1 w14),
gdO s13 false w15 (qLd s14 w15),
gdO s13 false w16 (seqO (r_len s15 0 16) w16),
gdO s13 false w17 (qBin bGtr .gtr s16 (cn 32) w17),
qPick s13 cT s17 w18,
qMov s18 w19,
gdO s19 false w20 (qFad 2 s1 w20),
gdO s19 false w21 (qLd s20 w21),
gdO s19 false w22 (seqO (r_len s21 0 22) w22),
gdO s19 false w23 (qBin bLss .lss s22 (cn 1) w23),
qPick s19 cT s23 w24,
qMov s24 w25,
gdO s25 false w26 (qFad 2 s1 w26),
gdO s25 false w27 (qLd s26 w27),
gdO s25 false w28 (seqO (r_len s27 0 28) w28),
gdO s25 false w29 (qBin bGtr .gtr s28 (cn 32) w29),
qPick s25 cT s29 w30] 22)
(.cond s30 (.seq (.region [qMov cF w2] 1)
.ret)
.skip))
(.seq (.region [qFad 0 s1 w32,
qLd s32 w33,
seqO (r_call 90 [s33] 0 34) w34,
qMov s34 w31,
seqO (r_extract s31 0 0 35) w35,
seqO (r_extract s31 1 0 36) w36,
qMov s35 w3,
qMov s36 w4] 8)
(.seq (.seq (.region [qMov (cn 0) w5] 1)
(.block 0 (.loop (.seq (.seq (.region [qMov s5 w37,
qMov s3 w38,
seqO (r_len s38 0 39) w39,
qBin bLss .lss s37 s39 w40] 4)
(.cond s40 .skip
(.exit 0)))
(.seq (.block 1 (.seq (.region [qMov s3 w43,
qMov s5 w44,
seqO (r_indexAddr 1 s43 s44 0 45) w45,
qLd s45 w46,
qBin bGtr .gtr s46 (cn 256) w47] 5)
(.cond s47 (.seq (.region [qMov cF w2] 1)
.ret)
.skip)))
(.region [qMov s5 w41,
qBin bAdd .add s41 (cn 1) w42,
qMov s42 w5] 3))))))
(.seq (.seq (.region [qMov (cn 0) w6] 1)
(.block 2 (.loop (.seq (.seq (.region [qMov s6 w48,
qFad 1 s1 w49,
qLd s49 w50,
seqO (r_len s50 0 51) w51,
qBin bLss .lss s48 s51 w52] 5)
(.cond s52 .skip
(.exit 2)))
(.seq (.block 3 (.seq (.region [qFad 1 s1 w55,
qLd s55 w56,
qMov s6 w57,
seqO (r_indexAddr 1 s56 s57 0 58) w58,
qLd s58 w59,
seqO (r_lenS s59 0 60) w60,
qBin bGtr .gtr s60 (cn 64) w61] 7)
(.cond s61 (.seq (.region [qMov cF w2] 1)
.ret)
.skip)))
(.region [qMov s6 w53,
qBin bAdd .add s53 (cn 1) w54,
qMov s54 w6] 3))))))
(.seq (.seq (.region [qMov (cn 0) w7] 1)
(.block 4 (.loop (.seq (.seq (.region [qMov s7 w62,
qFad 2 s1 w63,
qLd s63 w64,
seqO (r_len s64 0 65) w65,
qBin bLss .lss s62 s65 w66] 5)
(.cond s66 .skip
(.exit 4)))
(.seq (.block 5 (.seq (.seq (.draw [⟨(r_fieldAddr 0 s1 0 69),w69,0⟩,
⟨(r_load 1 false s69 0 70),w70,1⟩,
⟨(r_fieldAddr 2 s1 0 71),w71,0⟩,
⟨(r_load 1 false s71 0 72),w72,4⟩,
⟨(r_mov s7 0 73),w73,0⟩,
⟨(r_indexAddr 7 s72 s73 0 74),w74,28⟩,
⟨(r_load 7 true s74 0 75),w75,60⟩,
⟨(r_callF 161 [s70,s75] 0 76),w76,127⟩,
⟨(r_un .not s76 0 77),w77,255⟩] 9)
(.cond s77 (.seq (.region [qMov cF w2] 1)
.ret)
.skip))
(.seq (.region [qMov (cn 0) w8] 1)
(.block 6 (.loop (.seq (.seq (.region [qMov s8 w78,
qMov s7 w79,
qBin bLss .lss s78 s79 w80] 3)
(.cond s80 .skip
(.exit 6)))
(.seq (.block 7 (.seq (.draw [⟨(r_fieldAddr 2 s1 0 83),w83,0⟩,
⟨(r_load 1 false s83 0 84),w84,1⟩,
⟨(r_mov s8 0 85),w85,0⟩,
⟨(r_indexAddr 7 s84 s85 0 86),w86,7⟩,
⟨(r_fieldAddr 0 s86 0 87),w87,15⟩,
⟨(r_load 1 false s87 0 88),w88,31⟩,
⟨(r_fieldAddr 2 s1 0 89),w89,0⟩,
⟨(r_load 1 false s89 0 90),w90,64⟩,
⟨(r_mov s7 0 91),w91,0⟩,
⟨(r_indexAddr 7 s90 s91 0 92),w92,448⟩,
⟨(r_fieldAddr 0 s92 0 93),w93,960⟩,
⟨(r_load 1 false s93 0 94),w94,1984⟩,
⟨(r_bin .eql s88 s94 0 95),w95,4095⟩] 13)
(.cond s95 (.seq (.region [qMov cF w2] 1)
.ret)
.skip)))
(.region [qMov s8 w81,
qBin bAdd .add s81 (cn 1) w82,
qMov s82 w8] 3))))))))
(.region [qMov s7 w67,
qBin bAdd .add s67 (cn 1) w68,
qMov s68 w7] 3))))))
(.seq (.region [qMov cT w2] 1)
.ret))))))),false⟩
def q93:QFn:=⟨1,[.t s2],
(.seq (.region [seqO (r_box s0 0 1) w1,
qMov (cK oF) w2] 2)
(.seq (.region [qFad 0 s1 w10,
qLd s10 w11,
seqO (r_len s11 0 12) w12,
seqO (r_call 162 [s12] 65537 13) w13,
qMov s13 w3] 5)
(.seq (.seq (.region [qMov (cn 0) w4] 1)
(.block 0 (.loop (.seq (.seq (.region [qMov s4 w14,
qFad 0 s1 w15,
qLd s15 w16,
seqO (r_len s16 0 17) w17,
qBin bLss .lss s14 s17 w18] 5)
(.cond s18 .skip
(.exit 0)))
(.seq (.block 1 (.seq (.region [qFad 0 s1 w21,
qLd s21 w22,
qMov s4 w23,
seqO (r_indexAddr 4 s22 s23 0 24) w24,
seqO (r_load 4 true s24 0 25) w25,
seqO (r_alloc [b0,i0,i0,oF] 0 5) w5,
seqO (r_store 4 s5 s25 0 0) wN] 7)
(.seq (.region [qMov s3 w26,
qFad 0 s5 w27,
qLd s27 w28,
seqO (r_buildSlice 1 1 [db] [(0,s28)] 0 29) w29,
seqO (r_append 1 1 s26 s29 0 30) w30,
qMov s30 w3] 6)
(.seq (.region [qFad 0 s5 w31,
qLd s31 w32] 2)
(.block 2 (.seq (.seq (.region [qBin bEql .eql s32 (cb 4) w34,
qMov s34 w33] 2)
(.cond s33 .skip
(.region [qBin bEql .eql s32 (cb 7) w35,
qMov s35 w33] 2)))
(.cond s33 (.region [qMov s3 w36,
qFad 1 s5 w37,
qLd s37 w38,
seqO (r_call 162 [s38] 0 39) w39,
seqO (r_append 1 1 s36 s39 0 40) w40,
qMov s40 w3] 6)
(.seq (.region [qBin bEql .eql s32 (cb 6) w42,
qMov s42 w41] 2)
(.cond s41 (.draw [⟨(r_mov s3 0 43),w43,0⟩,
⟨(r_fieldAddr 1 s5 0 44),w44,0⟩,
⟨(r_load 1 false s44 0 45),w45,2⟩,
⟨(r_call 162 [s45] 0 46),w46,6⟩,
⟨(r_append 1 1 s43 s46 0 47),w47,15⟩,
⟨(r_fieldAddr 2 s5 0 48),w48,0⟩,
⟨(r_load 1 false s48 0 49),w49,32⟩,
⟨(r_call 162 [s49] 0 50),w50,127⟩,
⟨(r_append 1 1 s47 s50 0 51),w51,255⟩,
⟨(r_mov s51 0 3),w3,511⟩] 10)
(.seq (.region [qBin bEql .eql s32 (cb 5) w53,
qMov s53 w52] 2)
(.cond s52 (.region [qMov s3 w54,
qFad 3 s5 w55,
qLd s55 w56,
seqO (r_call 163 [s56] 0 57) w57,
seqO (r_append 1 1 s54 s57 0 58) w58,
qMov s58 w3] 6)
.skip)))))))))))
(.region [qMov s4 w19,
qBin bAdd .add s19 (cn 1) w20,
qMov s20 w4] 3))))))
(.seq (.region [qMov s3 w59,
qFad 1 s1 w60,
qLd s60 w61,
seqO (r_len s61 0 62) w62,
seqO (r_call 162 [s62] 0 63) w63,
seqO (r_append 1 1 s59 s63 0 64) w64,
qMov s64 w3] 7)
(.seq (.seq (.region [qMov (cn 0) w6] 1)
(.block 3 (.loop (.seq (.seq (.region [qMov s6 w65,
qFad 1 s1 w66,
qLd s66 w67,
seqO (r_len s67 0 68) w68,
qBin bLss .lss s65 s68 w69] 5)
(.cond s69 .skip
(.exit 3)))
(.seq (.block 4 (.region [qMov s3 w72,
qFad 1 s1 w73,
qLd s73 w74,
qMov s6 w75,
seqO (r_indexAddr 1 s74 s75 0 76) w76,
qLd s76 w77,
seqO (r_call 164 [s77] 0 78) w78,
seqO (r_append 1 1 s72 s78 0 79) w79,
qMov s79 w3] 9))
(.region [qMov s6 w70,
qBin bAdd .add s70 (cn 1) w71,
qMov s71 w6] 3))))))
(.seq (.region [qMov s3 w80,
qFad 2 s1 w81,
qLd s81 w82,
seqO (r_len s82 0 83) w83,
seqO (r_call 162 [s83] 0 84) w84,
seqO (r_append 1 1 s80 s84 0 85) w85,
qMov s85 w3] 7)
(.seq (.seq (.region [qMov (cn 0) w7] 1)
(.block 5 (.loop (.seq (.seq (.region [qMov s7 w86,
qFad 2 s1 w87,
qLd s87 w88,
seqO (r_len s88 0 89) w89,
qBin bLss .lss s86 s89 w90] 5)
(.cond s90 .skip
(.exit 5)))
(.seq (.block 6 (.seq (.region [qFad 2 s1 w93,
qLd s93 w94,
qMov s7 w95,
seqO (r_indexAddr 7 s94 s95 0 96) w96,
seqO (r_load 7 true s96 0 97) w97,
seqO (r_alloc [(.d (.sc (.string ⟨#[]⟩))),i0,i0,oF,oF,oF,oF] 0 8) w8,
seqO (r_store 7 s8 s97 0 0) wN] 7)
(.seq (.draw [⟨(r_mov s3 0 98),w98,0⟩,
⟨(r_fieldAddr 0 s8 0 99),w99,0⟩,
⟨(r_load 1 false s99 0 100),w100,2⟩,
⟨(r_call 164 [s100] 0 101),w101,6⟩,
⟨(r_append 1 1 s98 s101 0 102),w102,15⟩,
⟨(r_fieldAddr 1 s8 0 103),w103,0⟩,
⟨(r_load 1 false s103 0 104),w104,32⟩,
⟨(r_call 162 [s104] 0 105),w105,127⟩,
⟨(r_append 1 1 s102 s105 0 106),w106,255⟩,
⟨(r_mov s106 0 3),w3,511⟩] 10)
(.seq (.region [qMov s3 w107,
qFad 2 s8 w108,
qLd s108 w109,
seqO (r_callF 166 [s109] 0 110) w110,
seqO (r_call 165 [s110] 0 111) w111,
seqO (r_append 1 1 s107 s111 0 112) w112,
qMov s112 w3] 7)
(.seq (.draw [⟨(r_mov s3 0 113),w113,0⟩,
⟨(r_fieldAddr 3 s8 0 114),w114,0⟩,
⟨(r_load 1 false s114 0 115),w115,2⟩,
⟨(r_call 163 [s115] 0 116),w116,6⟩,
⟨(r_append 1 1 s113 s116 0 117),w117,15⟩,
⟨(r_fieldAddr 4 s8 0 118),w118,0⟩,
⟨(r_load 1 false s118 0 119),w119,32⟩,
⟨(r_len s119 0 120),w120,96⟩,
⟨(r_call 162 [s120] 0 121),w121,255⟩,
⟨(r_append 1 1 s117 s121 0 122),w122,511⟩,
⟨(r_mov s122 0 3),w3,1023⟩] 11)
(.seq (.seq (.region [qMov (cn 0) w9] 1)
(.block 7 (.loop (.seq (.seq (.region [qMov s9 w123,
qFad 4 s8 w124,
qLd s124 w125,
seqO (r_len s125 0 126) w126,
qBin bLss .lss s123 s126 w127] 5)
(.cond s127 .skip
(.exit 7)))
(.seq (.block 8 (.region [qMov s3 w130,
qFad 4 s8 w131,
qLd s131 w132,
qMov s9 w133,
seqO (r_indexAddr 4 s132 s133 0 134) w134,
seqO (r_load 4 true s134 0 135) w135,
seqO (r_call 167 [s135] 0 136) w136,
seqO (r_append 1 1 s130 s136 0 137) w137,
qMov s137 w3] 9))
(.region [qMov s9 w128,
qBin bAdd .add s128 (cn 1) w129,
qMov s129 w9] 3))))))
(.draw [⟨(r_mov s3 0 138),w138,0⟩,
⟨(r_fieldAddr 5 s8 0 139),w139,0⟩,
⟨(r_load 1 false s139 0 140),w140,2⟩,
⟨(r_call 168 [s140] 0 141),w141,6⟩,
⟨(r_append 1 1 s138 s141 0 142),w142,15⟩,
⟨(r_fieldAddr 6 s8 0 143),w143,0⟩,
⟨(r_load 1 false s143 0 144),w144,32⟩,
⟨(r_call 168 [s144] 0 145),w145,127⟩,
⟨(r_append 1 1 s142 s145 0 146),w146,255⟩,
⟨(r_mov s146 0 3),w3,511⟩] 10)))))))
(.region [qMov s7 w91,
qBin bAdd .add s91 (cn 1) w92,
qMov s92 w7] 3))))))
(.seq (.region [qMov s3 w147,
qMov s147 w2] 2)
.ret)))))))),false⟩
def q94:QFn:=⟨1,[.t s2],
(.seq (.region [qMov (cn 0) w2] 1)
(.seq (.seq (.region [qMov s0 w5,
seqO (r_len s5 0 6) w6,
qBin bLss .lss s6 (cn 1) w7,
qMov s7 w8,
gdO s8 false w9 (qMov s0 w9),
gdO s8 false w10 (seqO (r_len s9 0 10) w10),
gdO s8 false w11 (qBin bGtr .gtr s10 (cn 200) w11),
qPick s8 cT s11 w12] 8)
(.cond s12 (.seq (.region [qMov (cn 8) w2] 1)
.ret)
.skip))
(.seq (.seq (.region [qMov (cn 0) w3] 1)
(.block 0 (.loop (.seq (.seq (.region [qMov s3 w13,
qMov s0 w14,
seqO (r_len s14 0 15) w15,
qBin bLss .lss s13 s15 w16] 4)
(.cond s16 .skip
(.exit 0)))
(.seq (.block 1 (.seq (.region [qMov s0 w19,
qMov s3 w20,
seqO (r_indexAddr 4 s19 s20 0 21) w21,
seqO (r_load 4 true s21 0 22) w22,
seqO (r_alloc [b0,i0,i0,i0] 0 4) w4,
seqO (r_store 4 s4 s22 0 0) wN] 6)
(.seq (.region [seqO (r_load 4 true s4 0 23) w23,
seqO (r_callF 169 [s23] 0 24) w24,
qBin bNeq .neq s24 (cn 0) w25,
qMov s25 w26,
gdO s26 false w27 (qFad 0 s4 w27),
gdO s26 false w28 (qLd s27 w28),
gdO s26 false w29 (qBin bEql .eql s28 (cb 22) w29),
gdO s26 false w30 (qMov s29 w30),
gdO s30 true w31 (qFad 1 s4 w31),
gdO s30 true w32 (qLd s31 w32),
gdO s30 true w33 (qMov s0 w33),
gdO s30 true w34 (seqO (r_len s33 0 34) w34),
gdO s30 true w35 (qBin bGeq .geq s32 s34 w35),
gdO s26 false w36 (qPick s30 s35 cF w36),
qPick s26 cT s36 w37,
qMov s37 w38,
gdO s38 false w39 (qFad 0 s4 w39),
gdO s38 false w40 (qLd s39 w40),
gdO s38 false w41 (qBin bEql .eql s40 (cb 23) w41),
gdO s38 false w42 (qMov s41 w42),
gdO s42 true w43 (qFad 2 s4 w43),
gdO s42 true w44 (qLd s43 w44),
gdO s42 true w45 (qMov s0 w45),
gdO s42 true w46 (seqO (r_len s45 0 46) w46),
gdO s42 true w47 (qBin bGeq .geq s44 s46 w47),
gdO s38 false w48 (qPick s42 s47 cF w48),
qPick s38 cT s48 w49] 27)
(.cond s49 (.seq (.region [qMov (cn 8) w2] 1)
.ret)
.skip))))
(.region [qMov s3 w17,
qBin bAdd .add s17 (cn 1) w18,
qMov s18 w3] 3))))))
(.seq (.seq (.region [qMov s0 w50,
qMov s0 w51,
seqO (r_len s51 0 52) w52,
qBin bSub .sub s52 (cn 1) w53,
seqO (r_indexAddr 4 s50 s53 0 54) w54,
seqO (r_load 4 true s54 0 55) w55,
seqO (r_build [b0,i0,i0,i0] [(0,1,(cb 34)),(1,1,(cm 0))] 0 56) w56,
seqO (r_eqA true 4 [(0,1),(1,1),(2,1),(3,1)] s55 s56 0 57) w57] 8)
(.cond s57 (.seq (.region [qMov (cn 8) w2] 1)
.ret)
.skip))
(.seq (.region [qMov (cn 0) w2] 1)
.ret))))),false⟩
def q95:QFn:=⟨1,[.t s2],
(.seq (.region [qMov (cK oF) w2] 1)
(.seq (.region [qMov s0 w8,
seqO (r_len s8 0 9) w9,
seqO (r_makeSlice 1 1 [(.sc (.bool false))] s9 s9 1 10) w10,
qMov s10 w3] 4)
(.seq (.region [qMov s3 w11,
seqO (r_indexAddr 1 s11 (cn 0) 0 12) w12,
seqO (r_store 1 s12 cT 0 0) wN] 3)
(.seq (.seq (.region [qMov cT w4] 1)
(.block 0 (.loop (.seq (.seq (.region [qMov s4 w13] 1)
(.cond s13 .skip
(.exit 0)))
(.block 1 (.seq (.region [qMov cF w4] 1)
(.seq (.region [qMov (cn 0) w5] 1)
(.block 2 (.loop (.seq (.seq (.region [qMov s5 w14,
qMov s0 w15,
seqO (r_len s15 0 16) w16,
qBin bLss .lss s14 s16 w17] 4)
(.cond s17 .skip
(.exit 2)))
(.seq (.block 3 (.seq (.region [qMov s0 w20,
qMov s5 w21,
seqO (r_call 170 [s20,s21] 0 22) w22,
qMov s22 w6] 4)
(.seq (.region [qMov (cn 0) w7] 1)
(.block 4 (.loop (.seq (.seq (.region [qMov s7 w23,
qMov s6 w24,
seqO (r_len s24 0 25) w25,
qBin bLss .lss s23 s25 w26,
qMov s26 w27,
gdO s27 true w28 (qMov s3 w28),
gdO s27 true w29 (qMov s5 w29),
gdO s27 true w30 (seqO (r_indexAddr 1 s28 s29 0 30) w30),
gdO s27 true w31 (qLd s30 w31),
qPick s27 s31 cF w32] 10)
(.cond s32 .skip
(.exit 4)))
(.seq (.block 5 (.seq (.region [qMov s3 w35,
qMov s6 w36,
qMov s7 w37,
seqO (r_indexAddr 1 s36 s37 0 38) w38,
qLd s38 w39,
seqO (r_indexAddr 1 s35 s39 0 40) w40,
qLd s40 w41,
seqO (r_un .not s41 0 42) w42] 8)
(.cond s42 (.region [qMov s3 w43,
qMov s6 w44,
qMov s7 w45,
seqO (r_indexAddr 1 s44 s45 0 46) w46,
qLd s46 w47,
seqO (r_indexAddr 1 s43 s47 0 48) w48,
seqO (r_store 1 s48 cT 0 0) wN,
qMov cT w4] 8)
.skip)))
(.region [qMov s7 w33,
qBin bAdd .add s33 (cn 1) w34,
qMov s34 w7] 3))))))))
(.region [qMov s5 w18,
qBin bAdd .add s18 (cn 1) w19,
qMov s19 w5] 3))))))))))))
(.seq (.region [qMov s3 w49,
qMov s49 w2] 2)
.ret))))),false⟩
def q96:QFn:=⟨4,[.t s8],
(.seq (.region [seqO (r_box s0 0 4) w4,
qMov (cn 0) w8] 2)
(.seq (.region [qFad 2 s4 w10,
qLd s10 w11,
qMov s1 w12,
seqO (r_indexAddr 7 s11 s12 0 13) w13,
qFad 4 s13 w14,
qLd s14 w15,
qMov s2 w16,
seqO (r_indexAddr 4 s15 s16 0 17) w17,
seqO (r_load 4 true s17 0 18) w18,
seqO (r_alloc [b0,i0,i0,i0] 0 9) w9,
seqO (r_store 4 s9 s18 0 0) wN] 11)
(.seq (.seq (.region [seqO (r_load 3 true s4 0 19) w19,
qMov s1 w20,
seqO (r_load 4 true s9 0 21) w21,
seqO (r_callF 171 [s19,s20,s21] 0 22) w22,
seqO (r_un .not s22 0 23) w23] 5)
(.cond s23 (.seq (.region [qMov (cn 16) w8] 1)
.ret)
.skip))
(.seq (.seq (.region [qMov s3 w24,
seqO (r_un .not s24 0 25) w25] 2)
(.cond s25 (.seq (.region [qMov (cn 6) w8] 1)
.ret)
.skip))
(.seq (.seq (.region [seqO (r_load 3 true s4 0 26) w26,
qMov s1 w27,
seqO (r_load 4 true s9 0 28) w28,
seqO (r_callF 172 [s26,s27,s28] 0 29) w29,
seqO (r_un .not s29 0 30) w30] 5)
(.cond s30 (.seq (.region [qMov (cn 30) w8] 1)
.ret)
.skip))
(.seq (.region [qMov (cn 0) w8] 1)
.ret)))))),false⟩
def q97:QFn:=⟨2,[.t s4,.t s5],
(.seq (.region [seqO (r_box s0 0 2) w2,
qMov (cK oF) w4,
qMov cF w5] 3)
(.seq (.region [qFad 2 s2 w16,
qLd s16 w17,
qMov s1 w18,
seqO (r_indexAddr 7 s17 s18 0 19) w19,
qFad 4 s19 w20,
qLd s20 w21,
qMov s21 w6] 7)
(.seq (.draw [⟨(r_mov s6 0 22),w22,0⟩,
⟨(r_len s22 0 23),w23,1⟩,
⟨(r_makeSlice 1 24 [(.sl [])] s23 s23 1 24),w24,3⟩,
⟨(r_mov s6 0 25),w25,0⟩,
⟨(r_len s25 0 26),w26,8⟩,
⟨(r_makeSlice 1 1 [(.sc (.bool false))] s26 s26 1 27),w27,24⟩,
⟨(r_mov s24 0 7),w7,7⟩,
⟨(r_mov s27 0 8),w8,127⟩] 8)
(.seq (.region [qMov s8 w28,
seqO (r_indexAddr 1 s28 (cn 0) 0 29) w29,
seqO (r_store 1 s29 cT 0 0) wN] 3)
(.seq (.seq (.region [qMov cT w9] 1)
(.block 0 (.loop (.seq (.seq (.region [qMov s9 w30] 1)
(.cond s30 .skip
(.exit 0)))
(.block 1 (.seq (.region [qMov cF w9] 1)
(.seq (.region [qMov (cn 0) w10] 1)
(.block 2 (.loop (.seq (.seq (.region [qMov s10 w31,
qMov s6 w32,
seqO (r_len s32 0 33) w33,
qBin bLss .lss s31 s33 w34] 4)
(.cond s34 .skip
(.exit 2)))
(.seq (.block 3 (.seq (.seq (.region [qMov s8 w37,
qMov s10 w38,
seqO (r_indexAddr 1 s37 s38 0 39) w39,
qLd s39 w40,
seqO (r_un .not s40 0 41) w41] 5)
(.cond s41 (.exit 3)
.skip))
(.seq (.draw [⟨(r_load 3 true s2 0 43),w43,0⟩,
⟨(r_mov s1 0 44),w44,0⟩,
⟨(r_mov s6 0 45),w45,0⟩,
⟨(r_mov s10 0 46),w46,0⟩,
⟨(r_indexAddr 4 s45 s46 0 47),w47,12⟩,
⟨(r_load 4 true s47 0 48),w48,28⟩,
⟨(r_mov s7 0 49),w49,0⟩,
⟨(r_mov s10 0 50),w50,0⟩,
⟨(r_indexAddr 1 s49 s50 0 51),w51,192⟩,
⟨(r_load 1 false s51 0 52),w52,448⟩,
⟨(r_call 173 [s43,s44,s48,s52] 0 53),w53,1023⟩,
⟨(r_mov s53 0 42),w42,2047⟩,
⟨(r_extract s42 0 0 54),w54,4095⟩,
⟨(r_extract s42 1 0 55),w55,4095⟩,
⟨(r_mov s54 0 11),w11,8191⟩,
⟨(r_mov s55 0 12),w12,32767⟩] 16)
(.seq (.seq (.region [qMov s12 w56,
seqO (r_un .not s56 0 57) w57] 2)
(.cond s57 (.seq (.region [qMov (cK oF) w4,
qMov cF w5] 2)
.ret)
.skip))
(.seq (.region [qMov s6 w58,
qMov s10 w59,
seqO (r_call 170 [s58,s59] 0 60) w60,
qMov s60 w13] 4)
(.seq (.region [qMov (cn 0) w14] 1)
(.block 4 (.loop (.seq (.seq (.region [qMov s14 w61,
qMov s13 w62,
seqO (r_len s62 0 63) w63,
qBin bLss .lss s61 s63 w64] 4)
(.cond s64 .skip
(.exit 4)))
(.seq (.block 5 (.seq (.region [qMov s13 w67,
qMov s14 w68,
seqO (r_indexAddr 1 s67 s68 0 69) w69,
qLd s69 w70,
qMov s70 w15] 5)
(.seq (.seq (.region [qMov s8 w71,
qMov s15 w72,
seqO (r_indexAddr 1 s71 s72 0 73) w73,
qLd s73 w74,
qMov s74 w75,
gdO s75 true w76 (qMov s7 w76),
gdO s75 true w77 (qMov s15 w77),
gdO s75 true w78 (seqO (r_indexAddr 1 s76 s77 0 78) w78),
gdO s75 true w79 (qLd s78 w79),
gdO s75 true w80 (qMov s11 w80),
gdO s75 true w81 (seqO (r_callF 174 [s79,s80] 0 81) w81),
gdO s75 true w82 (seqO (r_un .not s81 0 82) w82),
qPick s75 s82 cF w83] 13)
(.cond s83 (.seq (.region [qMov (cK oF) w4,
qMov cF w5] 2)
.ret)
.skip))
(.seq (.region [qMov s8 w84,
qMov s15 w85,
seqO (r_indexAddr 1 s84 s85 0 86) w86,
qLd s86 w87,
seqO (r_un .not s87 0 88) w88] 5)
(.cond s88 (.region [qMov s7 w89,
qMov s15 w90,
qMov s8 w91,
qMov s15 w92,
qMov s11 w93,
seqO (r_indexAddr 1 s89 s90 0 94) w94,
seqO (r_store 1 s94 s93 0 0) wN,
seqO (r_indexAddr 1 s91 s92 0 95) w95,
seqO (r_store 1 s95 cT 0 0) wN,
qMov cT w9] 10)
.skip)))))
(.region [qMov s14 w65,
qBin bAdd .add s65 (cn 1) w66,
qMov s66 w14] 3)))))))))))
(.region [qMov s10 w35,
qBin bAdd .add s35 (cn 1) w36,
qMov s36 w10] 3))))))))))))
(.seq (.draw [⟨(r_mov s7 0 96),w96,0⟩,
⟨(r_mov s7 0 97),w97,0⟩,
⟨(r_mov s6 0 98),w98,0⟩,
⟨(r_len s98 0 99),w99,4⟩,
⟨(r_bin .sub s99 (cn 1) 0 100),w100,12⟩,
⟨(r_indexAddr 1 s97 s100 0 101),w101,30⟩,
⟨(r_load 1 false s101 0 102),w102,62⟩,
⟨(r_len s102 0 103),w103,126⟩,
⟨(r_bin .eql s103 (cn 0) 0 104),w104,254⟩,
⟨(r_mov s96 0 4),w4,1⟩,
⟨(r_mov s104 0 5),w5,1023⟩] 11)
.ret)))))),false⟩
def q98:QFn:=⟨3,[.t s6],
(.seq (.region [qMov (cK oF) w6] 1)
(.seq (.region [qMov s0 w16,
seqO (r_call 95 [s16] 0 17) w17,
qMov s17 w7] 3)
(.seq (.region [qMov s0 w18,
seqO (r_len s18 0 19) w19,
seqO (r_makeSlice 1 8 [du] s19 s19 1 20) w20,
qMov s20 w8] 4)
(.seq (.seq (.region [qMov (cn 0) w9] 1)
(.block 0 (.loop (.seq (.seq (.region [qMov s9 w21,
qMov s0 w22,
seqO (r_len s22 0 23) w23,
qBin bLss .lss s21 s23 w24] 4)
(.cond s24 .skip
(.exit 0)))
(.seq (.block 1 (.region [qMov s8 w27,
qMov s9 w28,
qMov s2 w29,
seqO (r_callF 175 [s29] 0 30) w30,
seqO (r_indexAddr 1 s27 s28 0 31) w31,
seqO (r_store 1 s31 s30 0 0) wN] 6))
(.region [qMov s9 w25,
qBin bAdd .add s25 (cn 1) w26,
qMov s26 w9] 3))))))
(.seq (.region [qMov s8 w32,
qMov s1 w33,
seqO (r_callF 175 [s33] 0 34) w34,
seqO (r_indexAddr 1 s32 (cn 0) 0 35) w35,
seqO (r_store 1 s35 s34 0 0) wN] 5)
(.seq (.seq (.region [qMov cT w10] 1)
(.block 2 (.loop (.seq (.seq (.region [qMov s10 w36] 1)
(.cond s36 .skip
(.exit 2)))
(.block 3 (.seq (.region [qMov cF w10] 1)
(.seq (.region [qMov (cn 0) w11] 1)
(.block 4 (.loop (.seq (.seq (.region [qMov s11 w37,
qMov s0 w38,
seqO (r_len s38 0 39) w39,
qBin bLss .lss s37 s39 w40] 4)
(.cond s40 .skip
(.exit 4)))
(.seq (.block 5 (.seq (.region [qMov s0 w43,
qMov s11 w44,
seqO (r_call 170 [s43,s44] 0 45) w45,
qMov s45 w12] 4)
(.seq (.region [qMov (cn 0) w13] 1)
(.block 6 (.loop (.seq (.seq (.region [qMov s13 w46,
qMov s12 w47,
seqO (r_len s47 0 48) w48,
qBin bLss .lss s46 s48 w49,
qMov s49 w50,
gdO s50 true w51 (qMov s7 w51),
gdO s50 true w52 (qMov s11 w52),
gdO s50 true w53 (seqO (r_indexAddr 1 s51 s52 0 53) w53),
gdO s50 true w54 (qLd s53 w54),
qPick s50 s54 cF w55] 10)
(.cond s55 .skip
(.exit 6)))
(.seq (.block 7 (.seq (.draw [⟨(r_mov s8 0 58),w58,0⟩,
⟨(r_mov s12 0 59),w59,0⟩,
⟨(r_mov s13 0 60),w60,0⟩,
⟨(r_indexAddr 1 s59 s60 0 61),w61,6⟩,
⟨(r_load 1 false s61 0 62),w62,14⟩,
⟨(r_indexAddr 1 s58 s62 0 63),w63,31⟩,
⟨(r_load 1 false s63 0 64),w64,63⟩,
⟨(r_mov s8 0 65),w65,0⟩,
⟨(r_mov s11 0 66),w66,0⟩,
⟨(r_indexAddr 1 s65 s66 0 67),w67,384⟩,
⟨(r_load 1 false s67 0 68),w68,896⟩,
⟨(r_mov s0 0 69),w69,0⟩,
⟨(r_mov s11 0 70),w70,0⟩,
⟨(r_indexAddr 4 s69 s70 0 71),w71,6144⟩,
⟨(r_load 4 true s71 0 72),w72,14336⟩,
⟨(r_callF 176 [s72] 0 73),w73,30720⟩,
⟨(r_bin .or s68 s73 0 74),w74,65408⟩,
⟨(r_bin .and s64 s74 0 75),w75,131071⟩,
⟨(r_mov s75 0 14),w14,262143⟩] 19)
(.seq (.region [qMov s14 w76,
qMov s8 w77,
qMov s12 w78,
qMov s13 w79,
seqO (r_indexAddr 1 s78 s79 0 80) w80,
qLd s80 w81,
seqO (r_indexAddr 1 s77 s81 0 82) w82,
qLd s82 w83,
qBin bNeq .neq s76 s83 w84] 9)
(.cond s84 (.region [qMov s8 w85,
qMov s12 w86,
qMov s13 w87,
seqO (r_indexAddr 1 s86 s87 0 88) w88,
qLd s88 w89,
qMov s14 w90,
seqO (r_indexAddr 1 s85 s89 0 91) w91,
seqO (r_store 1 s91 s90 0 0) wN,
qMov cT w10] 9)
.skip))))
(.region [qMov s13 w56,
qBin bAdd .add s56 (cn 1) w57,
qMov s57 w13] 3))))))))
(.region [qMov s11 w41,
qBin bAdd .add s41 (cn 1) w42,
qMov s42 w11] 3))))))))))))
(.seq (.seq (.region [qMov (cn 0) w15] 1)
(.block 8 (.loop (.seq (.seq (.region [qMov s15 w92,
qMov s0 w93,
seqO (r_len s93 0 94) w94,
qBin bLss .lss s92 s94 w95] 4)
(.cond s95 .skip
(.exit 8)))
(.seq (.block 9 (.seq (.region [qMov s7 w98,
qMov s15 w99,
seqO (r_indexAddr 1 s98 s99 0 100) w100,
qLd s100 w101,
seqO (r_un .not s101 0 102) w102,
qMov s102 w103,
gdO s103 false w104 (qMov s15 w104),
gdO s103 false w105 (qMov s0 w105),
gdO s103 false w106 (seqO (r_len s105 0 106) w106),
gdO s103 false w107 (qBin bSub .sub s106 (cn 1) w107),
gdO s103 false w108 (qBin bEql .eql s104 s107 w108),
qPick s103 cT s108 w109] 12)
(.cond s109 (.region [qMov s8 w110,
qMov s15 w111,
seqO (r_indexAddr 1 s110 s111 0 112) w112,
seqO (r_store 1 s112 (cu 0) 0 0) wN] 4)
.skip)))
(.region [qMov s15 w96,
qBin bAdd .add s96 (cn 1) w97,
qMov s97 w15] 3))))))
(.seq (.region [qMov s8 w113,
qMov s113 w6] 2)
.ret)))))))),false⟩
def q99:QFn:=⟨1,[.t s2,.t s3],
(.seq (.region [seqO (r_box s0 0 1) w1,
qMov (cK oF) w2,
qMov (cK oF) w3] 3)
(.seq (.region [qMov (cK oF) w4,
qMov (cK oF) w5] 2)
(.seq (.draw [⟨(r_fieldAddr 0 s1 0 9),w9,0⟩,
⟨(r_load 1 false s9 0 10),w10,1⟩,
⟨(r_callF 177 [s10] 0 11),w11,3⟩,
⟨(r_load 4 true s1 0 12),w12,0⟩,
⟨(r_callF 178 [s12] 0 13),w13,15⟩,
⟨(r_alloc [i0,i0,i0] 0 7),w7,0⟩,
⟨(r_mov s11 0 6),w6,63⟩,
⟨(r_store 3 s7 s13 0 0),wN,127⟩] 8)
(.seq (.seq (.region [qMov (cn 0) w8] 1)
(.block 0 (.loop (.seq (.seq (.region [qMov s8 w14,
qBin bLss .lss s14 (cn 3) w15] 2)
(.cond s15 .skip
(.exit 0)))
(.seq (.block 1 (.seq (.seq (.region [qMov s6 w18,
qMov s8 w19,
seqO (r_indexS s18 s19 0 20) w20,
qBin bEql .eql s20 (cb 114) w21,
qMov s21 w22,
gdO s22 false w23 (qMov s6 w23),
gdO s22 false w24 (qMov s8 w24),
gdO s22 false w25 (seqO (r_indexS s23 s24 0 25) w25),
gdO s22 false w26 (qBin bEql .eql s25 (cb 101) w26),
qPick s22 cT s26 w27,
qMov s27 w28,
gdO s28 true w29 (qMov s8 w29),
gdO s28 true w30 (seqO (r_indexArr 3 1 s7 s29 0 30) w30),
gdO s28 true w31 (qLd s30 w31),
gdO s28 true w32 (qBin bGeq .geq s31 (cn 0) w32),
qPick s28 s32 cF w33] 16)
(.cond s33 (.region [qMov s4 w34,
qMov s8 w35,
seqO (r_indexArr 3 1 s7 s35 0 36) w36,
qLd s36 w37,
seqO (r_buildSlice 1 1 [di] [(0,s37)] 0 38) w38,
seqO (r_append 1 8 s34 s38 0 39) w39,
qMov s39 w4] 7)
.skip))
(.seq (.region [qMov s6 w40,
qMov s8 w41,
seqO (r_indexS s40 s41 0 42) w42,
qBin bEql .eql s42 (cb 119) w43,
qMov s43 w44,
gdO s44 false w45 (qMov s6 w45),
gdO s44 false w46 (qMov s8 w46),
gdO s44 false w47 (seqO (r_indexS s45 s46 0 47) w47),
gdO s44 false w48 (qBin bEql .eql s47 (cb 103) w48),
qPick s44 cT s48 w49,
qMov s49 w50,
gdO s50 true w51 (qMov s8 w51),
gdO s50 true w52 (seqO (r_indexArr 3 1 s7 s51 0 52) w52),
gdO s50 true w53 (qLd s52 w53),
gdO s50 true w54 (qBin bGeq .geq s53 (cn 0) w54),
qPick s50 s54 cF w55] 16)
(.cond s55 (.region [qMov s5 w56,
qMov s8 w57,
seqO (r_indexArr 3 1 s7 s57 0 58) w58,
qLd s58 w59,
seqO (r_buildSlice 1 1 [di] [(0,s59)] 0 60) w60,
seqO (r_append 1 8 s56 s60 0 61) w61,
qMov s61 w5] 7)
.skip))))
(.region [qMov s8 w16,
qBin bAdd .add s16 (cn 1) w17,
qMov s17 w8] 3))))))
(.seq (.region [qMov s4 w62,
qMov s5 w63,
qMov s62 w2,
qMov s63 w3] 4)
.ret))))),false⟩
def q100:QFn:=⟨2,[.t s4],
(.seq (.region [seqO (r_box s0 0 2) w2,
qMov (cn 0) w4] 2)
(.seq (.region [qFad 0 s2 w10,
qLd s10 w11,
seqO (r_call 90 [s11] 0 12) w12,
qMov s12 w9,
seqO (r_extract s9 0 0 13) w13,
seqO (r_extract s9 1 0 14) w14,
qMov s13 w5,
qMov s14 w6] 8)
(.seq (.region [qMov (cn 0) w7] 1)
(.seq (.seq (.region [qMov (cn 0) w8] 1)
(.block 0 (.loop (.seq (.seq (.region [qMov s8 w15,
qMov s1 w16,
seqO (r_len s16 0 17) w17,
qBin bLss .lss s15 s17 w18] 4)
(.cond s18 .skip
(.exit 0)))
(.seq (.block 1 (.region [qMov s7 w21,
qMov s5 w22,
qMov s1 w23,
qMov s8 w24,
seqO (r_indexAddr 1 s23 s24 0 25) w25,
qLd s25 w26,
seqO (r_indexAddr 1 s22 s26 0 27) w27,
qLd s27 w28,
seqO (r_callF 52 [s28] 0 29) w29,
qBin bAdd .add s21 s29 w30,
qMov s30 w7] 11))
(.region [qMov s8 w19,
qBin bAdd .add s19 (cn 1) w20,
qMov s20 w8] 3))))))
(.seq (.region [qMov s7 w31,
qMov s31 w4] 2)
.ret))))),false⟩
def q101:QFn:=⟨1,[.t s2],
(.seq (.region [seqO (r_box s0 0 1) w1,
qMov (cn 0) w2] 2)
(.seq (.region [seqO (r_load 3 true s1 0 7) w7,
seqO (r_callF 179 [s7] 0 8) w8,
qMov s8 w6,
seqO (r_extract s6 0 0 9) w9,
seqO (r_extract s6 1 0 10) w10,
seqO (r_extract s6 2 0 11) w11,
qMov s9 w3,
qMov s10 w4,
qMov s11 w5] 9)
(.seq (.region [qMov s5 w12,
qMov s12 w2] 2)
.ret))),false⟩
def q102:QFn:=⟨1,[.t s2],
(.seq (.region [seqO (r_box s0 0 1) w1,
qMov (cn 0) w2] 2)
(.seq (.region [qFad 1 s1 w5,
seqO (r_load 4 true s5 0 6) w6,
seqO (r_alloc [i0,i0,i0,i0] 0 3) w3,
seqO (r_store 4 s3 s6 0 0) wN] 4)
(.seq (.region [qFad 0 s3 w7,
qLd s7 w8,
seqO (r_callF 180 [s8,(cn 1),(cn 5000)] 0 9) w9,
qMov s9 w10,
gdO s10 true w11 (qFad 1 s3 w11),
gdO s10 true w12 (qLd s11 w12),
gdO s10 true w13 (seqO (r_callF 180 [s12,(cn 0),(cn 4096)] 0 13) w13),
qPick s10 s13 cF w14,
qMov s14 w15,
gdO s15 true w16 (qFad 2 s3 w16),
gdO s15 true w17 (qLd s16 w17),
gdO s15 true w18 (seqO (r_callF 180 [s17,(cn 0),(cn 16384)] 0 18) w18),
qPick s15 s18 cF w19,
qMov s19 w20,
gdO s20 true w21 (qFad 3 s3 w21),
gdO s20 true w22 (qLd s21 w22),
gdO s20 true w23 (seqO (r_callF 180 [s22,(cn 1),(cn 16)] 0 23) w23),
qPick s20 s23 cF w24,
qMov s24 w25,
gdO s25 true w26 (qFad 0 s1 w26),
gdO s25 true w27 (qLd s26 w27),
gdO s25 true w28 (seqO (r_len s27 0 28) w28),
gdO s25 true w29 (qBin bLeq .leq s28 (cn 2000) w29),
qPick s25 s29 cF w30,
qMov s30 w4] 25)
(.seq (.seq (.region [qMov s4 w31,
seqO (r_un .not s31 0 32) w32,
qMov s32 w33,
gdO s33 false w34 (qFad 0 s1 w34),
gdO s33 false w35 (qLd s34 w35),
gdO s33 false w36 (seqO (r_callF 181 [s35,(cK (.clo 182 []))] 0 36) w36),
qPick s33 cT s36 w37] 7)
(.cond s37 (.seq (.region [qMov (cn 8) w2] 1)
.ret)
.skip))
(.seq (.region [qMov (cn 0) w2] 1)
.ret))))),false⟩
def q103:QFn:=⟨1,[.t s2],
(.seq (.region [qMov (cn 0) w2] 1)
(.seq (.seq (.region [qMov s0 w5,
seqO (r_len s5 0 6) w6,
qBin bLss .lss s6 (cn 1) w7,
qMov s7 w8,
gdO s8 false w9 (qMov s0 w9),
gdO s8 false w10 (seqO (r_len s9 0 10) w10),
gdO s8 false w11 (qBin bGtr .gtr s10 (cn 16) w11),
qPick s8 cT s11 w12] 8)
(.cond s12 (.seq (.region [qMov (cn 8) w2] 1)
.ret)
.skip))
(.seq (.seq (.region [qMov s0 w13,
seqO (r_len s13 0 14) w14,
qMov (cn 0) w15] 3)
(.block 0 (.loop (.seq (.region [qBin bLss .lss s15 s14 w16] 1)
(.seq (.cond s16 .skip
(.exit 0))
(.seq (.block 1 (.seq (.region [qMov s15 w17,
seqO (r_indexAddr 6 s13 s15 0 18) w18,
seqO (r_load 6 true s18 0 19) w19,
seqO (r_alloc [b0,u0,u0,u0,u0,i0] 0 4) w4,
qMov s17 w3,
seqO (r_store 6 s4 s19 0 0) wN] 6)
(.seq (.region [qMov s3 w20,
seqO (r_load 6 true s4 0 21) w21,
seqO (r_callF 183 [s20,s21] 0 22) w22,
seqO (r_un .not s22 0 23) w23] 4)
(.cond s23 (.seq (.region [qMov (cn 8) w2] 1)
.ret)
.skip))))
(.region [qBin bAdd .add s15 (cn 1) w24,
qMov s24 w15] 2)))))))
(.seq (.region [qMov (cn 0) w2] 1)
.ret)))),false⟩
def q105:QFn:=⟨2,[.t s4],
(.seq (.region [qMov cF w4] 1)
(.seq (.region [qMov s0 w5,
seqO (r_len s5 0 6) w6,
qMov s1 w7,
seqO (r_len s7 0 8) w8,
qBin bGeq .geq s6 s8 w9,
qMov s9 w10,
gdO s10 true w11 (qMov s0 w11),
gdO s10 true w12 (qMov s1 w12),
gdO s10 true w13 (seqO (r_len s12 0 13) w13),
gdO s10 true w14 (seqO (r_slice 1 s11 none (some s13) none 0 14) w14),
gdO s10 true w15 (qMov s1 w15),
gdO s10 true w16 (seqO (r_callF 117 [s14,s15] 0 16) w16),
qPick s10 s16 cF w17,
qMov s17 w4] 14)
.ret)),false⟩
def q106:QFn:=⟨1,[.t s2],
(.seq (.region [seqO (r_box s0 0 1) w1,
qMov (cn 0) w2] 2)
(.seq (.region [qFad 0 s1 w4,
qLd s4 w5,
qBin (bGen .quo) .quo s5 (cu 16777216) w6,
qMov s6 w3] 4)
(.seq (.seq (.region [qFad 0 s1 w7,
qLd s7 w8,
qBin (bGen .rem) .rem s8 (cu 16777216) w9,
qBin bNeq .neq s9 (cu 0) w10,
qMov s10 w11,
gdO s11 false w12 (qMov s3 w12),
gdO s11 false w13 (qBin bLss .lss s12 (cu 1) w13),
qPick s11 cT s13 w14,
qMov s14 w15,
gdO s15 false w16 (qMov s3 w16),
gdO s15 false w17 (qBin bGtr .gtr s16 (cu 16) w17),
qPick s15 cT s17 w18,
qMov s18 w19,
gdO s19 false w20 (qFad 1 s1 w20),
gdO s19 false w21 (qLd s20 w21),
gdO s19 false w22 (seqO (r_len s21 0 22) w22),
gdO s19 false w23 (qBin (bGen .rem) .rem s22 (cn 8) w23),
gdO s19 false w24 (qBin bNeq .neq s23 (cn 0) w24),
qPick s19 cT s24 w25,
qMov s25 w26,
gdO s26 false w27 (qFad 1 s1 w27),
gdO s26 false w28 (qLd s27 w28),
gdO s26 false w29 (seqO (r_len s28 0 29) w29),
gdO s26 false w30 (qBin bGtr .gtr s29 (cn 4096) w30),
qPick s26 cT s30 w31] 25)
(.cond s31 (.seq (.region [qMov (cn 8) w2] 1)
.ret)
.skip))
(.seq (.region [qMov (cn 0) w2] 1)
.ret)))),false⟩
def q107:QFn:=⟨1,[.t s2],
(.seq (.region [seqO (r_box s0 0 1) w1,
qMov (cn 0) w2] 2)
(.seq (.region [seqO (r_load 3 true s1 0 6) w6,
seqO (r_call 187 [s6] 0 7) w7,
qMov s7 w5,
seqO (r_extract s5 0 0 8) w8,
seqO (r_extract s5 1 0 9) w9,
qMov s8 w3,
qMov s9 w4] 7)
(.seq (.region [qMov s4 w10,
qMov s10 w2] 2)
.ret))),false⟩
def q108:QFn:=⟨2,[.t s4,.t s5,.t s6],
(.seq (.region [seqO (r_box s0 0 2) w2,
qMov (cn 0) w4,
qMov (cn 0) w5,
qMov (cn 0) w6] 4)
(.seq (.seq (.region [seqO (r_load 3 true s2 0 9) w9,
seqO (r_callF 107 [s9] 0 10) w10,
qMov s10 w7] 3)
(.seq (.region [qMov s7 w11,
qBin bNeq .neq s11 (cn 0) w12] 2)
(.cond s12 (.seq (.region [qMov s7 w13,
qMov (cn 0) w4,
qMov (cn 0) w5,
qMov s13 w6] 4)
.ret)
.skip)))
(.seq (.region [qMov s1 w14,
qBin (bGen .shr) .shr s14 (cu 8) w15,
qMov s1 w16,
qBin (bGen .and) .and s16 (cu 255) w17,
seqO (r_conv .i64 s17 0 18) w18,
qMov s15 w8,
qMov s18 w5] 7)
(.seq (.seq (.region [qMov s8 w19,
qBin bEql .eql s19 (cu 0) w20,
qMov s20 w21,
gdO s21 false w22 (qMov s8 w22),
gdO s21 false w23 (qFad 2 s2 w23),
gdO s21 false w24 (qLd s23 w24),
gdO s21 false w25 (seqO (r_len s24 0 25) w25),
gdO s21 false w26 (seqO (r_conv .u64 s25 0 26) w26),
gdO s21 false w27 (qBin bGtr .gtr s22 s26 w27),
qPick s21 cT s27 w28,
qMov s28 w29,
gdO s29 false w30 (qMov s5 w30),
gdO s29 false w31 (qFad 2 s2 w31),
gdO s29 false w32 (qLd s31 w32),
gdO s29 false w33 (qMov s8 w33),
gdO s29 false w34 (qBin bSub .sub s33 (cu 1) w34),
gdO s29 false w35 (seqO (r_indexAddr 7 s32 s34 0 35) w35),
gdO s29 false w36 (qFad 4 s35 w36),
gdO s29 false w37 (qLd s36 w37),
gdO s29 false w38 (seqO (r_len s37 0 38) w38),
gdO s29 false w39 (qBin bGeq .geq s30 s38 w39),
qPick s29 cT s39 w40] 22)
(.cond s40 (.seq (.region [qMov (cn 0) w4,
qMov (cn 0) w5,
qMov (cn 6) w6] 3)
.ret)
.skip))
(.seq (.region [qMov s8 w41,
seqO (r_conv .i64 s41 0 42) w42,
qBin bSub .sub s42 (cn 1) w43,
qMov s5 w44,
qMov s43 w4,
qMov s44 w5,
qMov (cn 0) w6] 7)
.ret))))),false⟩
def q109:QFn:=⟨2,[.t s4,.t s5],
(.seq (.region [seqO (r_box s0 0 2) w2,
qMov (cn 0) w4,
qMov (cn 0) w5] 3)
(.seq (.region [seqO (r_load 3 true s2 0 14) w14,
qMov s1 w15,
seqO (r_callF 108 [s14,s15] 0 16) w16,
qMov s16 w13,
seqO (r_extract s13 0 0 17) w17,
seqO (r_extract s13 1 0 18) w18,
seqO (r_extract s13 2 0 19) w19,
qMov s17 w6,
qMov s18 w7,
qMov s19 w8] 10)
(.seq (.seq (.region [qMov s8 w20,
qBin bNeq .neq s20 (cn 0) w21] 2)
(.cond s21 (.seq (.region [qMov s8 w22,
qMov (cn 0) w4,
qMov s22 w5] 3)
.ret)
.skip))
(.seq (.region [seqO (r_load 3 true s2 0 24) w24,
qMov s6 w25,
seqO (r_call 188 [s24,s25] 0 26) w26,
qMov s26 w23,
seqO (r_extract s23 0 0 27) w27,
seqO (r_extract s23 1 0 28) w28,
qMov s27 w9,
qMov s28 w10] 8)
(.seq (.draw [⟨(r_fieldAddr 2 s2 0 30),w30,0⟩,
⟨(r_load 1 false s30 0 31),w31,1⟩,
⟨(r_mov s6 0 32),w32,0⟩,
⟨(r_indexAddr 7 s31 s32 0 33),w33,7⟩,
⟨(r_fieldAddr 5 s33 0 34),w34,15⟩,
⟨(r_load 1 false s34 0 35),w35,31⟩,
⟨(r_fieldAddr 2 s2 0 36),w36,0⟩,
⟨(r_load 1 false s36 0 37),w37,64⟩,
⟨(r_mov s6 0 38),w38,0⟩,
⟨(r_indexAddr 7 s37 s38 0 39),w39,448⟩,
⟨(r_fieldAddr 4 s39 0 40),w40,960⟩,
⟨(r_load 1 false s40 0 41),w41,1984⟩,
⟨(r_len s41 0 42),w42,4032⟩,
⟨(r_mov s7 0 43),w43,0⟩,
⟨(r_callF 189 [s35,s42,s43] 0 44),w44,16383⟩,
⟨(r_mov s44 0 29),w29,32767⟩,
⟨(r_extract s29 0 0 45),w45,65535⟩,
⟨(r_extract s29 1 0 46),w46,65535⟩,
⟨(r_mov s45 0 11),w11,131071⟩,
⟨(r_mov s46 0 12),w12,524287⟩] 20)
(.seq (.seq (.region [qMov s11 w47,
qBin bGtr .gtr s47 (cu 4096) w48,
qMov s48 w49,
gdO s49 false w50 (qMov s10 w50),
gdO s49 false w51 (qBin bAdd .add (cn 24) s50 w51),
gdO s49 false w52 (qMov s11 w52),
gdO s49 false w53 (seqO (r_conv .i64 s52 0 53) w53),
gdO s49 false w54 (qBin bAdd .add s51 s53 w54),
gdO s49 false w55 (qBin bGtr .gtr s54 (cn 4096) w55),
qPick s49 cT s55 w56] 10)
(.cond s56 (.seq (.region [qMov (cn 0) w4,
qMov (cn 16) w5] 2)
.ret)
.skip))
(.seq (.region [qMov s10 w57,
qBin bAdd .add (cn 24) s57 w58,
qMov s11 w59,
seqO (r_conv .i64 s59 0 60) w60,
qBin bAdd .add s58 s60 w61,
qMov s61 w4,
qMov (cn 0) w5] 7)
.ret))))))),false⟩
def q110:QFn:=⟨2,[.t s4,.t s5,.t s6,.t s7],
(.seq (.region [seqO (r_box s0 0 2) w2,
qMov (cu 0) w4,
qMov (cu 0) w5,
qMov (cu 0) w6,
qMov (cn 0) w7] 5)
(.seq (.seq (.region [seqO (r_load 2 true s2 0 11) w11,
seqO (r_callF 106 [s11] 0 12) w12,
qMov s12 w8] 3)
(.seq (.region [qMov s8 w13,
qBin bNeq .neq s13 (cn 0) w14] 2)
(.cond s14 (.seq (.region [qMov s8 w15,
qMov (cu 0) w4,
qMov (cu 0) w5,
qMov (cu 0) w6,
qMov s15 w7] 5)
.ret)
.skip)))
(.seq (.seq (.region [seqO (r_load 2 true s2 0 17) w17,
qMov s1 w18,
seqO (r_callF 143 [s17,s18,(cn 24)] 0 19) w19,
qMov s19 w16,
seqO (r_extract s16 0 0 20) w20,
seqO (r_extract s16 1 0 21) w21,
qMov s20 w9,
qMov s21 w10] 8)
(.seq (.region [qMov s9 w22,
seqO (r_un .not s22 0 23) w23,
qMov s23 w24,
gdO s24 false w25 (qMov s1 w25),
gdO s24 false w26 (qBin (bGen .rem) .rem s25 (cu 8) w26),
gdO s24 false w27 (qBin bNeq .neq s26 (cu 0) w27),
qPick s24 cT s27 w28] 7)
(.cond s28 (.seq (.region [qMov (cu 0) w4,
qMov (cu 0) w5,
qMov (cu 0) w6,
qMov (cn 16) w7] 4)
.ret)
.skip)))
(.seq (.region [seqO (r_load 2 true s2 0 30) w30,
qMov s1 w31,
seqO (r_callF 144 [s30,s31,(cn 8)] 0 32) w32,
qMov s32 w29,
seqO (r_extract s29 0 0 33) w33,
seqO (r_extract s29 1 0 34) w34,
qMov s33 w4] 7)
(.seq (.region [seqO (r_load 2 true s2 0 36) w36,
qMov s1 w37,
qBin bAdd .add s37 (cu 8) w38,
seqO (r_callF 144 [s36,s38,(cn 8)] 0 39) w39,
qMov s39 w35,
seqO (r_extract s35 0 0 40) w40,
seqO (r_extract s35 1 0 41) w41,
qMov s40 w5] 8)
(.seq (.region [seqO (r_load 2 true s2 0 43) w43,
qMov s1 w44,
qBin bAdd .add s44 (cu 16) w45,
seqO (r_callF 144 [s43,s45,(cn 8)] 0 46) w46,
qMov s46 w42,
seqO (r_extract s42 0 0 47) w47,
seqO (r_extract s42 1 0 48) w48,
qMov s47 w6] 8)
(.seq (.seq (.region [qMov s5 w49,
qMov s6 w50,
seqO (r_callF 190 [s49,s50] 0 51) w51,
seqO (r_un .not s51 0 52) w52] 4)
(.cond s52 (.seq (.region [qMov (cu 0) w4,
qMov (cu 0) w5,
qMov (cu 0) w6,
qMov (cn 12) w7] 4)
.ret)
.skip))
(.seq (.region [qMov s4 w53,
qMov s5 w54,
qMov s6 w55,
qMov s53 w4,
qMov s54 w5,
qMov s55 w6,
qMov (cn 0) w7] 7)
.ret)))))))),false⟩
def q111:QFn:=⟨2,[.t s4,.t s5,.t s6,.t s7],
(.seq (.region [qMov (cK oF) w4,
qMov (cn 0) w5,
qMov (cn 0) w6,
qMov (cn 0) w7] 4)
(.seq (.seq (.region [qMov s0 w15,
seqO (r_callF 191 [s15] 0 16) w16,
qMov s16 w8] 3)
(.seq (.region [qMov s8 w17,
qBin bNeq .neq s17 (cn 0) w18] 2)
(.cond s18 (.seq (.region [qMov s8 w19,
qMov (cK oF) w4,
qMov (cn 0) w5,
qMov (cn 0) w6,
qMov s19 w7] 5)
.ret)
.skip)))
(.seq (.seq (.region [qMov s1 w20,
seqO (r_len s20 0 21) w21,
qBin bGtr .gtr s21 (cn 16) w22] 3)
(.cond s22 (.seq (.region [qMov (cK oF) w4,
qMov (cn 0) w5,
qMov (cn 0) w6,
qMov (cn 4) w7] 4)
.ret)
.skip))
(.seq (.region [qMov s0 w23,
seqO (r_call 192 [s23] 0 24) w24,
qMov s24 w9] 3)
(.seq (.seq (.region [qMov s1 w25,
seqO (r_len s25 0 26) w26,
qMov (cn 0) w27] 3)
(.block 0 (.loop (.seq (.region [qBin bLss .lss s27 s26 w28] 1)
(.seq (.cond s28 .skip
(.exit 0))
(.seq (.block 1 (.seq (.region [seqO (r_indexAddr 2 s25 s27 0 29) w29,
seqO (r_load 2 true s29 0 30) w30,
seqO (r_alloc [(.d (.sc (.string ⟨#[]⟩))),i0] 0 11) w11,
seqO (r_store 2 s11 s30 0 0) wN] 4)
(.seq (.region [qFad 1 s11 w31,
qLd s31 w32,
qBin bLss .lss s32 (cn 0) w33,
qMov s33 w34,
gdO s34 false w35 (qFad 1 s11 w35),
gdO s34 false w36 (qLd s35 w36),
gdO s34 false w37 (qMov s0 w37),
gdO s34 false w38 (seqO (r_len s37 0 38) w38),
gdO s34 false w39 (qBin bGeq .geq s36 s38 w39),
qPick s34 cT s39 w40] 10)
(.cond s40 (.seq (.region [qMov (cK oF) w4,
qMov (cn 0) w5,
qMov (cn 0) w6,
qMov (cn 2) w7] 4)
.ret)
.skip))))
(.region [qBin bAdd .add s27 (cn 1) w41,
qMov s41 w27] 2)))))))
(.seq (.seq (.region [qMov s1 w42,
seqO (r_len s42 0 43) w43,
qMov (cn 0) w44] 3)
(.block 2 (.loop (.seq (.region [qBin bLss .lss s44 s43 w45] 1)
(.seq (.cond s45 .skip
(.exit 2))
(.seq (.block 3 (.seq (.region [seqO (r_indexAddr 2 s42 s44 0 46) w46,
seqO (r_load 2 true s46 0 47) w47,
seqO (r_alloc [(.d (.sc (.string ⟨#[]⟩))),i0] 0 13) w13,
seqO (r_store 2 s13 s47 0 0) wN] 4)
(.seq (.region [qMov s9 w48,
qFad 1 s13 w49,
qLd s49 w50,
seqO (r_indexAddr 2 s48 s50 0 51) w51,
qFad 0 s51 w52,
qLd s52 w53,
qBin bGtr .gtr s53 (cn 256) w54] 7)
(.cond s54 (.seq (.region [qMov (cK oF) w4,
qMov (cn 0) w5,
qMov (cn 0) w6,
qMov (cn 16) w7] 4)
.ret)
.skip))))
(.region [qBin bAdd .add s44 (cn 1) w55,
qMov s55 w44] 2)))))))
(.seq (.region [qMov s9 w57,
qMov s1 w58,
seqO (r_call 193 [s57,s58] 0 59) w59,
qMov s59 w56,
seqO (r_extract s56 0 0 60) w60,
seqO (r_extract s56 1 0 61) w61,
seqO (r_alloc [i0,i0] 0 14) w14,
qMov s60 w4,
seqO (r_store 2 s14 s61 0 0) wN] 9)
(.seq (.draw [⟨(r_mov s4 0 62),w62,0⟩,
⟨(r_fieldAddr 0 s14 0 63),w63,0⟩,
⟨(r_load 1 false s63 0 64),w64,2⟩,
⟨(r_fieldAddr 1 s14 0 65),w65,0⟩,
⟨(r_load 1 false s65 0 66),w66,8⟩,
⟨(r_mov s62 0 4),w4,1⟩,
⟨(r_mov s64 0 5),w5,39⟩,
⟨(r_mov s66 0 6),w6,127⟩,
⟨(r_mov (cn 0) 0 7),w7,255⟩] 9)
.ret)))))))),false⟩
def q112:QFn:=⟨2,[.t s4],
(.seq (.region [seqO (r_mov (cK oF) 65540 4) w4] 1)
(.seq (.draw [⟨(r_mov s0 0 6),w6,0⟩,
⟨(r_nilCheck s6 0 7),w7,1⟩,
⟨(r_fieldAddr 16 s7 0 8),w8,3⟩,
⟨(r_load 1 false s8 0 9),w9,7⟩,
⟨(r_bin .add s9 (cn 24) 0 10),w10,15⟩,
⟨(r_mov s0 0 11),w11,0⟩,
⟨(r_nilCheck s11 0 12),w12,32⟩,
⟨(r_fieldAddr 15 s12 0 13),w13,96⟩,
⟨(r_load 1 false s13 0 14),w14,224⟩,
⟨(r_mov s1 0 15),w15,0⟩,
⟨(r_indexAddr 1 s14 s15 0 16),w16,992⟩,
⟨(r_load 1 false s16 0 17),w17,2016⟩,
⟨(r_bin .add s10 s17 0 18),w18,4095⟩,
⟨(r_mov s18 0 5),w5,8191⟩] 14)
(.seq (.draw [⟨(r_mov s0 0 19),w19,0⟩,
⟨(r_nilCheck s19 0 20),w20,1⟩,
⟨(r_fieldAddr 0 s20 0 21),w21,3⟩,
⟨(r_fieldAddr 9 s21 0 22),w22,7⟩,
⟨(r_load 1 false s22 0 23),w23,15⟩,
⟨(r_mov s0 0 24),w24,0⟩,
⟨(r_nilCheck s24 0 25),w25,32⟩,
⟨(r_fieldAddr 12 s25 0 26),w26,96⟩,
⟨(r_load 1 false s26 0 27),w27,224⟩,
⟨(r_indexAddr 2 s23 s27 0 28),w28,511⟩,
⟨(r_fieldAddr 1 s28 0 29),w29,1023⟩,
⟨(r_load 1 false s29 0 30),w30,2047⟩,
⟨(r_mov s5 0 31),w31,0⟩,
⟨(r_slice 1 s30 (some s31) none none 0 32),w32,8191⟩,
⟨(r_mov s0 0 33),w33,0⟩,
⟨(r_mov s0 0 34),w34,0⟩,
⟨(r_nilCheck s34 0 35),w35,32768⟩,
⟨(r_fieldAddr 0 s35 0 36),w36,98304⟩,
⟨(r_fieldAddr 0 s36 0 37),w37,229376⟩,
⟨(r_fieldAddr 2 s37 0 38),w38,491520⟩,
⟨(r_load 1 false s38 0 39),w39,1015808⟩,
⟨(r_mov s0 0 40),w40,0⟩,
⟨(r_nilCheck s40 0 41),w41,2097152⟩,
⟨(r_fieldAddr 13 s41 0 42),w42,6291456⟩,
⟨(r_load 1 false s42 0 43),w43,14680064⟩,
⟨(r_indexAddr 7 s39 s43 0 44),w44,33521664⟩,
⟨(r_fieldAddr 3 s44 0 45),w45,67076096⟩,
⟨(r_load 1 false s45 0 46),w46,134184960⟩,
⟨(r_mov s1 0 47),w47,0⟩,
⟨(r_indexAddr 2 s46 s47 0 48),w48,536838144⟩,
⟨(r_fieldAddr 1 s48 0 49),w49,1073709056⟩,
⟨(r_load 1 false s49 0 50),w50,2147450880⟩,
⟨(r_call 120 [s33,s50] 7 51),w51,4294950912⟩,
⟨(r_slice 1 s32 none (some s51) none 0 52),w52,8589934591⟩,
⟨(r_mov s52 65540 4),w4,17179869183⟩] 35)
.ret))),true⟩
def q113:QFn:=⟨3,[.t s6],
(.seq (.region [qMov (cu 0) w6] 1)
(.seq (.region [qMov (cu 0) w7] 1)
(.seq (.seq (.region [qMov s0 w10,
qMov s1 w11,
seqO (r_call 112 [s10,s11] 0 12) w12,
qMov s2 w13,
qBin (bGen .mul) .mul (cn 8) s13 w14,
qMov s2 w15,
qBin (bGen .mul) .mul (cn 8) s15 w16,
qBin bAdd .add s16 (cn 8) w17,
seqO (r_slice 1 s12 (some s14) (some s17) none 0 18) w18,
seqO (r_len s18 0 19) w19,
qMov (cn 0) w20] 11)
(.block 0 (.loop (.seq (.region [qBin bLss .lss s20 s19 w21] 1)
(.seq (.cond s21 .skip
(.exit 0))
(.seq (.block 1 (.seq (.region [qMov s20 w22,
seqO (r_indexAddr 1 s18 s20 0 23) w23,
qLd s23 w24,
qMov s22 w8,
qMov s24 w9] 5)
(.region [qMov s7 w25,
qMov s9 w26,
seqO (r_conv .u64 s26 0 27) w27,
qMov s8 w28,
qBin (bGen .mul) .mul (cn 8) s28 w29,
qBin (bGen .shl) .shl s27 s29 w30,
qBin (bGen .or) .or s25 s30 w31,
qMov s31 w7] 8)))
(.region [qBin bAdd .add s20 (cn 1) w32,
qMov s32 w20] 2)))))))
(.seq (.region [qMov s7 w33,
qMov s33 w6] 2)
.ret)))),true⟩
def q114:QFn:=⟨3,[],
(.seq (.region [qMov s0 w10,
qMov s1 w11,
seqO (r_call 112 [s10,s11] 65537 12) w12,
qMov s12 w6] 4)
(.seq (.region [qMov s2 w13,
seqO (r_len s13 0 14) w14,
qMov (cn 0) w15] 3)
(.block 0 (.loop (.seq (.region [qBin bLss .lss s15 s14 w16] 1)
(.seq (.cond s16 .skip
(.exit 0))
(.seq (.block 1 (.seq (.region [qMov s15 w17,
seqO (r_indexAddr 1 s13 s15 0 18) w18,
qLd s18 w19,
qMov s17 w7,
qMov s19 w8] 5)
(.seq (.region [qMov (cn 0) w20] 1)
(.block 2 (.loop (.seq (.region [qBin bLss .lss s20 (cn 8) w21] 1)
(.seq (.cond s21 .skip
(.exit 2))
(.seq (.block 3 (.seq (.region [qMov s20 w22,
qMov s22 w9] 2)
(.region [qMov s6 w23,
qMov s7 w24,
qBin (bGen .mul) .mul (cn 8) s24 w25,
qMov s9 w26,
qBin bAdd .add s25 s26 w27,
qMov s8 w28,
qMov s9 w29,
qBin (bGen .mul) .mul (cn 8) s29 w30,
qBin (bGen .shr) .shr s28 s30 w31,
seqO (r_conv .u8 s31 0 32) w32,
seqO (r_indexAddr 1 s23 s27 0 33) w33,
seqO (r_store 1 s33 s32 0 0) wN] 12)))
(.region [qBin bAdd .add s20 (cn 1) w34,
qMov s34 w20] 2)))))))))
(.region [qBin bAdd .add s15 (cn 1) w35,
qMov s35 w15] 2)))))))),true⟩
def q115:QFn:=⟨2,[.t s4],
(.seq (.region [qMov (cu 0) w4] 1)
(.seq (.region [qMov s0 w9,
seqO (r_nilCheck s9 0 10) w10,
qFad 0 s10 w11,
qFad 0 s11 w12,
qFad 1 s12 w13,
qLd s13 w14,
seqO (r_call 104 [s14,(cn 16384)] 0 15) w15,
qMov s15 w8,
seqO (r_extract s8 0 0 16) w16,
seqO (r_extract s8 1 0 17) w17,
seqO (r_extract s8 2 0 18) w18,
seqO (r_alloc [u0,oF] 0 5) w5,
seqO (r_store 2 s5 s16 0 0) wN,
qMov s17 w6,
qMov s18 w7] 15)
(.seq (.region [qMov s6 w19,
qMov s1 w20,
seqO (r_indexAddr 1 s19 s20 0 21) w21,
qLd s21 w22,
qMov s22 w4] 5)
.ret))),true⟩
def q116:QFn:=⟨3,[],
(.seq (.region [qMov s0 w6,
qMov s1 w7,
seqO (r_call 112 [s6,s7] 65537 8) w8,
seqO (r_indexAddr 1 s8 (cn 0) 0 9) w9,
seqO (r_store 1 s9 (cb 0) 0 0) wN] 5)
(.seq (.region [qMov s2 w10] 1)
(.cond s10 (.region [qMov s0 w11,
qMov s1 w12,
seqO (r_call 112 [s11,s12] 65537 13) w13,
seqO (r_indexAddr 1 s13 (cn 0) 0 14) w14,
seqO (r_store 1 s14 (cb 1) 0 0) wN] 5)
.skip))),true⟩
def q117:QFn:=⟨2,[.t s4],
(.seq (.region [qMov cF w4] 1)
(.seq (.region [qMov s0 w5,
seqO (r_b2s s5 0 6) w6,
qMov s1 w7,
seqO (r_b2s s7 0 8) w8,
qBin bEql .eql s6 s8 w9,
qMov s9 w4] 6)
.ret)),false⟩
def q119:QFn:=⟨4,[.cell s8 2 true],
(.seq (.region [seqO (r_alloc [i0,b0] 0 8) w8] 1)
(.seq (.draw [⟨(r_mov s0 0 13),w13,0⟩,
⟨(r_nilCheck s13 0 14),w14,1⟩,
⟨(r_fieldAddr 0 s14 0 15),w15,3⟩,
⟨(r_fieldAddr 7 s15 0 16),w16,7⟩,
⟨(r_load 2 true s16 0 17),w17,15⟩,
⟨(r_mov s2 0 18),w18,0⟩,
⟨(r_mov s0 0 19),w19,0⟩,
⟨(r_nilCheck s19 0 20),w20,64⟩,
⟨(r_fieldAddr 0 s20 0 21),w21,192⟩,
⟨(r_fieldAddr 3 s21 0 22),w22,448⟩,
⟨(r_fieldAddr 2 s22 0 23),w23,960⟩,
⟨(r_load 1 false s23 0 24),w24,1984⟩,
⟨(r_call 194 [s17,s18,s24] 10 25),w25,4095⟩,
⟨(r_mov s25 0 12),w12,8191⟩,
⟨(r_extract s12 0 0 26),w26,16383⟩,
⟨(r_extract s12 1 0 27),w27,16383⟩,
⟨(r_extract s12 2 0 28),w28,16383⟩,
⟨(r_alloc [u0,oF] 0 9),w9,0⟩,
⟨(r_store 2 s9 s26 0 0),wN,163839⟩,
⟨(r_mov s27 0 10),w10,458751⟩,
⟨(r_mov s28 0 11),w11,1048575⟩] 21)
(.seq (.seq (.region [qMov s11 w29,
qBin bNeq .neq s29 (cn 0) w30] 2)
(.cond s30 (.seq (.region [seqO (r_build [i0,b0] [(1,1,(cb 5))] 0 31) w31,
seqO (r_store 2 s8 s31 0 0) wN] 2)
.ret)
.skip))
(.seq (.region [qMov s0 w32,
seqO (r_load 2 true s9 0 33) w33,
seqO (r_nilCheck s32 0 34) w34,
qFad 0 s34 w35,
qFad 7 s35 w36,
seqO (r_store 2 s36 s33 0 0) wN] 6)
(.seq (.region [qMov s0 w37,
qMov s1 w38,
qMov s10 w39,
seqO (r_buildSlice 1 1 [du] [(0,s39)] 0 40) w40,
qMov s3 w41,
seqO (r_append 1 8 s40 s41 0 42) w42,
seqO (r_call 114 [s37,s38,s42] 0 43) w43] 7)
(.seq (.region [seqO (r_build [i0,b0] [] 0 44) w44,
seqO (r_store 2 s8 s44 0 0) wN] 2)
.ret)))))),true⟩
def q120:QFn:=⟨2,[.t s4],
(.seq (.region [qMov (cn 0) w4] 1)
(.seq (.region [qMov s0 w9,
seqO (r_nilCheck s9 0 10) w10,
qFad 0 s10 w11,
qFad 0 s11 w12,
qFad 0 s12 w13,
qLd s13 w14,
qMov s1 w15,
seqO (r_callF 132 [s14,s15] 0 16) w16,
qMov s16 w8,
seqO (r_extract s8 0 0 17) w17,
seqO (r_extract s8 1 0 18) w18,
seqO (r_extract s8 2 0 19) w19,
qMov s17 w5,
qMov s18 w6,
qMov s19 w7] 15)
(.seq (.region [qMov s5 w20,
qMov s20 w4] 2)
.ret))),true⟩
def q121:QFn:=⟨2,[.cell s4 4 true],
(.seq (.region [seqO (r_alloc [b0,i0,i0,oF] 0 4) w4] 1)
(.seq (.draw [⟨(r_mov s0 0 5),w5,0⟩,
⟨(r_nilCheck s5 0 6),w6,1⟩,
⟨(r_fieldAddr 0 s6 0 7),w7,3⟩,
⟨(r_fieldAddr 0 s7 0 8),w8,7⟩,
⟨(r_fieldAddr 0 s8 0 9),w9,15⟩,
⟨(r_load 1 false s9 0 10),w10,31⟩,
⟨(r_mov s0 0 11),w11,0⟩,
⟨(r_nilCheck s11 0 12),w12,64⟩,
⟨(r_fieldAddr 0 s12 0 13),w13,192⟩,
⟨(r_fieldAddr 0 s13 0 14),w14,448⟩,
⟨(r_fieldAddr 2 s14 0 15),w15,960⟩,
⟨(r_load 1 false s15 0 16),w16,1984⟩,
⟨(r_mov s0 0 17),w17,0⟩,
⟨(r_nilCheck s17 0 18),w18,4096⟩,
⟨(r_fieldAddr 13 s18 0 19),w19,12288⟩,
⟨(r_load 1 false s19 0 20),w20,28672⟩,
⟨(r_indexAddr 7 s16 s20 0 21),w21,65472⟩,
⟨(r_fieldAddr 3 s21 0 22),w22,131008⟩,
⟨(r_load 1 false s22 0 23),w23,262080⟩,
⟨(r_mov s1 0 24),w24,0⟩,
⟨(r_indexAddr 2 s23 s24 0 25),w25,1048512⟩,
⟨(r_fieldAddr 1 s25 0 26),w26,2097088⟩,
⟨(r_load 1 false s26 0 27),w27,4194240⟩,
⟨(r_indexAddr 4 s10 s27 0 28),w28,8388607⟩,
⟨(r_load 4 true s28 0 29),w29,16777215⟩,
⟨(r_store 4 s4 s29 0 0),wN,33554431⟩] 26)
.ret)),true⟩
def q124:QFn:=⟨1,[.t s2,.t s3],
(.seq (.region [qMov (cn 0) w2,
qMov (cn 0) w3] 2)
(.seq (.seq (.region [qMov s0 w4,
qBin bLss .lss s4 (cn 0) w5,
qMov s5 w6,
gdO s6 false w7 (qMov s0 w7),
gdO s6 false w8 (qBin bGtr .gtr s7 (cn 1073741824) w8),
qPick s6 cT s8 w9] 6)
(.cond s9 (.seq (.region [qMov (cn 0) w2,
qMov (cn 2) w3] 2)
.ret)
.skip))
(.seq (.region [qMov s0 w10,
qBin bAdd .add s10 (cn 7) w11,
qBin (bGen .andNot) .andNot s11 (cn 7) w12,
qMov s12 w2,
qMov (cn 0) w3] 5)
.ret))),false⟩
def q125:QFn:=⟨1,[.t s2],
(.seq (.region [qMov (cK oF) w2] 1)
(.seq (.region [qMov (cn 0) w3] 1)
(.seq (.seq (.region [qMov s0 w9,
seqO (r_len s9 0 10) w10,
qMov (cn 0) w11] 3)
(.block 0 (.loop (.seq (.region [qBin bLss .lss s11 s10 w12] 1)
(.seq (.cond s12 .skip
(.exit 0))
(.seq (.block 1 (.seq (.region [seqO (r_indexAddr 1 s9 s11 0 13) w13,
qLd s13 w14,
qMov s14 w5] 3)
(.seq (.region [qMov s3 w15,
qMov s5 w16,
seqO (r_len s16 0 17) w17,
qBin bAdd .add s15 s17 w18,
qMov s18 w3] 5)
(.seq (.region [qMov s3 w19,
qBin bLss .lss s19 (cn 0) w20] 2)
(.cond s20 (.region [seqO (r_bad 0 21) w21,
seqO (r_bad 0 0) wN] 2)
.skip)))))
(.region [qBin bAdd .add s11 (cn 1) w22,
qMov s22 w11] 2)))))))
(.seq (.region [qMov s3 w23,
seqO (r_call 196 [(cK oF),s23] 65537 24) w24,
qMov s24 w6] 3)
(.seq (.seq (.region [qMov s0 w25,
seqO (r_len s25 0 26) w26,
qMov (cn 0) w27] 3)
(.block 2 (.loop (.seq (.region [qBin bLss .lss s27 s26 w28] 1)
(.seq (.cond s28 .skip
(.exit 2))
(.seq (.block 3 (.seq (.region [seqO (r_indexAddr 1 s25 s27 0 29) w29,
qLd s29 w30,
qMov s30 w8] 3)
(.region [qMov s6 w31,
qMov s8 w32,
seqO (r_append 1 1 s31 s32 0 33) w33,
qMov s33 w6] 4)))
(.region [qBin bAdd .add s27 (cn 1) w34,
qMov s34 w27] 2)))))))
(.seq (.region [qMov s6 w35,
qMov s35 w2] 2)
.ret)))))),false⟩
def q126:QFn:=⟨4,[.cell s8 2 true,.t s9,.t s10,.t s11],
(.seq (.region [seqO (r_box s0 0 4) w4,
seqO (r_alloc [u0,oF] 0 8) w8,
qMov (cn 0) w9,
qMov cF w10,
qMov (cn 0) w11] 5)
(.seq (.region [seqO (r_load 2 true s4 0 17) w17,
qMov s1 w18,
seqO (r_call 197 [s17,s18] 0 19) w19,
qMov s19 w16,
seqO (r_extract s16 0 0 20) w20,
seqO (r_extract s16 1 0 21) w21,
qMov s20 w12,
qMov s21 w13] 8)
(.seq (.seq (.region [qMov s13 w22,
qBin bNeq .neq s22 (cn 0) w23] 2)
(.cond s23 (.seq (.region [seqO (r_build [u0,oF] [] 0 24) w24,
qMov s13 w25,
seqO (r_store 2 s8 s24 0 0) wN,
qMov (cn 0) w9,
qMov cF w10,
qMov s25 w11] 6)
.ret)
.skip))
(.seq (.seq (.region [qMov s2 w26,
qBin bNeq .neq s26 (cu 2) w27,
qMov s27 w28,
gdO s28 false w29 (qMov s3 w29),
gdO s28 false w30 (qMov s1 w30),
gdO s28 false w31 (qBin bNeq .neq s29 s30 w31),
qPick s28 cT s31 w32,
qMov s32 w33,
gdO s33 false w34 (qMov s12 w34),
gdO s33 false w35 (seqO (r_len s34 0 35) w35),
gdO s33 false w36 (qBin bEql .eql s35 (cn 0) w36),
qPick s33 cT s36 w37,
qMov s37 w38,
gdO s38 false w39 (qMov s12 w39),
gdO s38 false w40 (seqO (r_indexAddr 7 s39 (cn 0) 0 40) w40),
gdO s38 false w41 (qFad 4 s40 w41),
gdO s38 false w42 (qLd s41 w42),
gdO s38 false w43 (qBin (bGen .and) .and s42 (cu 3) w43),
gdO s38 false w44 (qBin bNeq .neq s43 (cu 0) w44),
qPick s38 cT s44 w45] 20)
(.cond s45 (.seq (.region [seqO (r_load 2 true s4 0 46) w46,
seqO (r_call 198 [s46] 65538 47) w47,
seqO (r_store 2 s8 s47 0 0) wN,
qMov (cn 0) w9,
qMov cF w10,
qMov (cn 0) w11] 6)
.ret)
.skip))
(.seq (.region [qMov s12 w48,
seqO (r_indexAddr 7 s48 (cn 0) 0 49) w49,
seqO (r_load 7 true s49 0 50) w50,
seqO (r_alloc [u0,u0,u0,u0,u0,u0,u0] 0 14) w14,
seqO (r_store 7 s14 s50 0 0) wN] 5)
(.seq (.region [qFad 4 s14 w51,
qLd s51 w52,
qBin (bGen .or) .or s52 (cu 1) w53,
qFad 4 s14 w54,
seqO (r_store 1 s54 s53 0 0) wN] 5)
(.seq (.region [qFad 2 s14 w55,
qLd s55 w56,
qMov s56 w15] 3)
(.seq (.seq (.region [qFad 1 s14 w57,
qLd s57 w58,
qBin bEql .eql s58 (cu 3) w59] 3)
(.cond s59 (.region [qFad 3 s14 w60,
qLd s60 w61,
qMov s61 w15] 3)
.skip))
(.seq (.region [seqO (r_load 2 true s4 0 62) w62,
qMov s1 w63,
seqO (r_load 7 true s14 0 64) w64,
seqO (r_call 199 [s62,s63,s64] 65538 65) w65,
qMov s15 w66,
seqO (r_conv .i64 s66 0 67) w67,
seqO (r_store 2 s8 s65 0 0) wN,
qMov s67 w9,
qMov cT w10,
qMov (cn 0) w11] 10)
.ret))))))))),false⟩
def q129:QFn:=⟨3,[.cell s6 2 true,.t s7,.t s8],
(.seq (.region [seqO (r_box s0 0 3) w3,
seqO (r_box s1 0 4) w4,
seqO (r_alloc [u0,oF] 0 6) w6,
qMov (cu 0) w7,
qMov (cn 0) w8] 5)
(.seq (.seq (.region [seqO (r_load 2 true s3 0 15) w15,
qMov s2 w16,
seqO (r_callF 76 [s15,s16] 0 17) w17,
qMov s17 w14,
seqO (r_extract s14 0 0 18) w18,
seqO (r_extract s14 1 0 19) w19,
qMov s18 w9,
qMov s19 w10] 8)
(.seq (.region [qMov s10 w20,
qBin bNeq .neq s20 (cn 0) w21] 2)
(.cond s21 (.seq (.region [seqO (r_build [u0,oF] [] 0 22) w22,
qMov s10 w23,
seqO (r_store 2 s6 s22 0 0) wN,
qMov (cu 0) w7,
qMov s23 w8] 5)
.ret)
.skip)))
(.seq (.seq (.region [seqO (r_load 7 true s4 0 24) w24,
seqO (r_callF 203 [s24] 0 25) w25,
seqO (r_un .not s25 0 26) w26] 3)
(.cond s26 (.seq (.region [seqO (r_build [u0,oF] [] 0 27) w27,
seqO (r_store 2 s6 s27 0 0) wN,
qMov (cu 0) w7,
qMov (cn 2) w8] 4)
.ret)
.skip))
(.seq (.region [seqO (r_load 2 true s3 0 29) w29,
qMov s2 w30,
seqO (r_call 194 [s29,(cn 56),s30] 0 31) w31,
qMov s31 w28,
seqO (r_extract s28 0 0 32) w32,
seqO (r_extract s28 1 0 33) w33,
seqO (r_extract s28 2 0 34) w34,
seqO (r_alloc [u0,oF] 0 11) w11,
seqO (r_store 2 s11 s32 0 0) wN,
qMov s33 w12,
qMov s34 w13] 11)
(.seq (.seq (.region [qMov s13 w35,
qBin bNeq .neq s35 (cn 0) w36] 2)
(.cond s36 (.seq (.region [seqO (r_build [u0,oF] [] 0 37) w37,
qMov s13 w38,
seqO (r_store 2 s6 s37 0 0) wN,
qMov (cu 0) w7,
qMov s38 w8] 5)
.ret)
.skip))
(.seq (.region [seqO (r_load 2 true s11 0 39) w39,
qMov s12 w40,
seqO (r_load 7 true s4 0 41) w41,
seqO (r_call 199 [s39,s40,s41] 0 42) w42,
qMov s12 w43,
seqO (r_store 2 s6 s42 0 0) wN,
qMov s43 w7,
qMov (cn 0) w8] 8)
.ret)))))),false⟩
def q130:QFn:=⟨0,[.cell s0 2 true],
(.seq (.region [seqO (r_alloc [b0,i0] 0 0) w0] 1)
(.seq (.region [seqO (r_build [b0,i0] [(1,1,(cn 36))] 0 1) w1,
seqO (r_store 2 s0 s1 0 0) wN] 2)
.ret)),false⟩
def q131:QFn:=⟨1,[.cell s2 2 true],
(.seq (.region [seqO (r_alloc [b0,i0] 0 2) w2] 1)
(.seq (.region [qMov s0 w10,
seqO (r_call 68 [s10] 0 11) w11,
seqO (r_nilCheck s11 0 12) w12,
qFad 4 s12 w13,
qLd s13 w14,
qMov s14 w3] 6)
(.seq (.region [qMov s0 w16,
seqO (r_nilCheck s16 0 17) w17,
qFad 0 s17 w18,
qFad 7 s18 w19,
seqO (r_load 2 true s19 0 20) w20,
qMov s3 w21,
seqO (r_callF 204 [s20,s21] 0 22) w22,
qMov s22 w15,
seqO (r_extract s15 0 0 23) w23,
seqO (r_extract s15 1 0 24) w24,
seqO (r_alloc [u0,u0,u0,u0,u0,u0,u0] 0 4) w4,
seqO (r_store 7 s4 s23 0 0) wN,
qMov s24 w5] 13)
(.seq (.seq (.region [qMov s5 w25,
qBin bNeq .neq s25 (cn 0) w26] 2)
(.cond s26 (.seq (.region [seqO (r_callF 130 [] 0 27) w27,
seqO (r_store 2 s2 s27 0 0) wN] 2)
.ret)
.skip))
(.seq (.seq (.region [qMov s0 w28,
seqO (r_call 68 [s28] 0 29) w29,
seqO (r_nilCheck s29 0 30) w30,
qFad 3 s30 w31,
qLd s31 w32,
qBin bEql .eql s32 (cu 0) w33] 6)
(.cond s33 (.seq (.seq (.region [qFad 1 s4 w34,
qLd s34 w35,
qBin bEql .eql s35 (cu 0) w36] 3)
(.cond s36 (.seq (.region [qMov s0 w37,
seqO (r_call 205 [s37] 0 38) w38] 2)
(.seq (.region [seqO (r_build [b0,i0] [] 0 39) w39,
seqO (r_store 2 s2 s39 0 0) wN] 2)
.ret))
.skip))
(.seq (.region [seqO (r_build [b0,i0] [(0,1,(cb 2))] 0 40) w40,
seqO (r_store 2 s2 s40 0 0) wN] 2)
.ret))
.skip))
(.seq (.draw [⟨(r_mov s0 0 42),w42,0⟩,
⟨(r_nilCheck s42 0 43),w43,1⟩,
⟨(r_fieldAddr 0 s43 0 44),w44,3⟩,
⟨(r_fieldAddr 7 s44 0 45),w45,7⟩,
⟨(r_load 2 true s45 0 46),w46,15⟩,
⟨(r_mov s0 0 47),w47,0⟩,
⟨(r_call 68 [s47] 1151802201769771008 48),w48,32⟩,
⟨(r_nilCheck s48 0 49),w49,96⟩,
⟨(r_fieldAddr 3 s49 0 50),w50,224⟩,
⟨(r_load 1 false s50 0 51),w51,480⟩,
⟨(r_callF 77 [s46,s51] 0 52),w52,1023⟩,
⟨(r_mov s52 0 41),w41,2047⟩,
⟨(r_extract s41 0 0 53),w53,4095⟩,
⟨(r_extract s41 1 0 54),w54,4095⟩,
⟨(r_alloc [u0,u0,i0,(.d (.sc (.bool false))),u0] 0 6),w6,0⟩,
⟨(r_store 5 s6 s53 0 0),wN,24575⟩,
⟨(r_mov s54 0 5),w5,65535⟩] 17)
(.seq (.seq (.region [qMov s5 w55,
qBin bNeq .neq s55 (cn 0) w56,
qMov s56 w57,
gdO s57 false w58 (qFad 1 s6 w58),
gdO s57 false w59 (qLd s58 w59),
gdO s57 false w60 (qBin bEql .eql s59 (cu 0) w60),
qPick s57 cT s60 w61] 7)
(.cond s61 (.seq (.region [seqO (r_callF 130 [] 0 62) w62,
seqO (r_store 2 s2 s62 0 0) wN] 2)
.ret)
.skip))
(.seq (.region [qMov (cu 2) w7] 1)
(.seq (.seq (.region [qFad 1 s4 w63,
qLd s63 w64,
qBin bEql .eql s64 (cu 0) w65] 3)
(.cond s65 (.region [qMov (cu 3) w7] 1)
.skip))
(.seq (.draw [⟨(r_mov s0 0 66),w66,0⟩,
⟨(r_call 68 [s66] 6597069766656 67),w67,1⟩,
⟨(r_nilCheck s67 0 68),w68,3⟩,
⟨(r_fieldAddr 2 s68 0 69),w69,7⟩,
⟨(r_load 1 false s69 0 70),w70,15⟩,
⟨(r_fieldAddr 1 s6 0 71),w71,0⟩,
⟨(r_load 1 false s71 0 72),w72,32⟩,
⟨(r_fieldAddr 5 s4 0 73),w73,31⟩,
⟨(r_store 1 s73 s70 0 0),wN,159⟩,
⟨(r_fieldAddr 6 s4 0 74),w74,511⟩,
⟨(r_store 1 s74 s72 0 0),wN,1023⟩] 11)
(.seq (.draw [⟨(r_mov s0 0 76),w76,0⟩,
⟨(r_nilCheck s76 0 77),w77,1⟩,
⟨(r_fieldAddr 0 s77 0 78),w78,3⟩,
⟨(r_fieldAddr 7 s78 0 79),w79,7⟩,
⟨(r_load 2 true s79 0 80),w80,15⟩,
⟨(r_mov s3 0 81),w81,0⟩,
⟨(r_load 7 true s4 0 82),w82,0⟩,
⟨(r_call 206 [s80,s81,s82] 0 83),w83,127⟩,
⟨(r_mov s83 0 75),w75,255⟩,
⟨(r_extract s75 0 0 84),w84,511⟩,
⟨(r_extract s75 1 0 85),w85,511⟩,
⟨(r_alloc [u0,oF] 0 8),w8,0⟩,
⟨(r_store 2 s8 s84 0 0),wN,3071⟩,
⟨(r_mov s85 0 5),w5,8191⟩] 14)
(.seq (.seq (.region [qMov s5 w86,
qBin bNeq .neq s86 (cn 0) w87] 2)
(.cond s87 (.seq (.region [seqO (r_callF 130 [] 0 88) w88,
seqO (r_store 2 s2 s88 0 0) wN] 2)
.ret)
.skip))
(.seq (.seq (.region [qMov s0 w89,
seqO (r_load 5 true s6 0 90) w90,
qMov s7 w91,
qMov s3 w92,
seqO (r_call 139 [s89,s90,s91,s92] 0 93) w93,
seqO (r_alloc [b0,i0] 0 9) w9,
seqO (r_store 2 s9 s93 0 0) wN] 7)
(.seq (.region [seqO (r_load 2 true s9 0 94) w94,
seqO (r_build [b0,i0] [] 0 95) w95,
seqO (r_eqA true 2 [(0,1),(1,1)] s94 s95 0 96) w96] 3)
(.cond s96 (.seq (.region [seqO (r_load 2 true s9 0 97) w97,
seqO (r_store 2 s2 s97 0 0) wN] 2)
.ret)
.skip)))
(.seq (.seq (.region [qMov s0 w99,
seqO (r_load 2 true s8 0 100) w100,
qMov s3 w101,
qFad 1 s6 w102,
qLd s102 w103,
seqO (r_call 207 [s100,s101,s103] 0 104) w104,
qMov s104 w98,
seqO (r_extract s98 0 0 105) w105,
seqO (r_extract s98 1 0 106) w106,
seqO (r_nilCheck s99 0 107) w107,
qFad 0 s107 w108,
qFad 7 s108 w109,
seqO (r_store 2 s109 s105 0 0) wN,
qMov s106 w5] 14)
(.seq (.region [qMov s5 w110,
qBin bNeq .neq s110 (cn 0) w111] 2)
(.cond s111 (.seq (.region [seqO (r_callF 130 [] 0 112) w112,
seqO (r_store 2 s2 s112 0 0) wN] 2)
.ret)
.skip)))
(.seq (.region [seqO (r_build [b0,i0] [] 0 113) w113,
seqO (r_store 2 s2 s113 0 0) wN] 2)
.ret))))))))))))))),true⟩
def q132:QFn:=⟨2,[.t s4,.t s5,.t s6],
(.seq (.region [qMov (cn 0) w4,
qMov (cn 0) w5,
qMov (cn 0) w6] 3)
(.seq (.region [qMov s0 w9,
qMov s1 w10,
seqO (r_call 208 [s9,s10] 0 11) w11,
qMov s11 w8,
seqO (r_extract s8 0 0 12) w12,
seqO (r_extract s8 1 0 13) w13,
qMov s12 w7,
qMov s13 w6] 8)
(.seq (.seq (.region [qMov s6 w14,
qBin bNeq .neq s14 (cn 0) w15] 2)
(.cond s15 (.seq (.region [qMov s6 w16,
qMov (cn 0) w4,
qMov (cn 0) w5,
qMov s16 w6] 4)
.ret)
.skip))
(.seq (.draw [⟨(r_mov s7 0 17),w17,0⟩,
⟨(r_mov s1 0 18),w18,0⟩,
⟨(r_indexAddr 2 s17 s18 0 19),w19,3⟩,
⟨(r_fieldAddr 0 s19 0 20),w20,7⟩,
⟨(r_load 1 false s20 0 21),w21,15⟩,
⟨(r_mov s7 0 22),w22,0⟩,
⟨(r_mov s1 0 23),w23,0⟩,
⟨(r_indexAddr 2 s22 s23 0 24),w24,96⟩,
⟨(r_fieldAddr 1 s24 0 25),w25,224⟩,
⟨(r_load 1 false s25 0 26),w26,480⟩,
⟨(r_mov s21 0 4),w4,31⟩,
⟨(r_mov s26 0 5),w5,2047⟩,
⟨(r_mov (cn 0) 0 6),w6,4095⟩] 13)
.ret)))),false⟩
def q133:QFn:=⟨2,[.t s4],
(.seq (.region [qMov (cK oF) w4] 1)
(.seq (.draw [⟨(r_mov s0 0 8),w8,0⟩,
⟨(r_nilCheck s8 0 9),w9,1⟩,
⟨(r_fieldAddr 0 s9 0 10),w10,3⟩,
⟨(r_fieldAddr 9 s10 0 11),w11,7⟩,
⟨(r_load 1 false s11 0 12),w12,15⟩,
⟨(r_mov s0 0 13),w13,0⟩,
⟨(r_nilCheck s13 0 14),w14,32⟩,
⟨(r_fieldAddr 12 s14 0 15),w15,96⟩,
⟨(r_load 1 false s15 0 16),w16,224⟩,
⟨(r_indexAddr 2 s12 s16 0 17),w17,511⟩,
⟨(r_mov s17 0 5),w5,1023⟩] 11)
(.seq (.region [qMov s5 w18,
seqO (r_nilCheck s18 0 19) w19,
qFad 1 s19 w20,
qLd s20 w21,
seqO (r_len s21 0 22) w22,
qMov s1 w23,
qBin bSub .sub s22 s23 w24,
qMov s24 w6] 8)
(.seq (.region [qMov s5 w25,
seqO (r_nilCheck s25 0 26) w26,
qFad 1 s26 w27,
qLd s27 w28,
qMov s6 w29,
seqO (r_slice 1 s28 (some s29) none none 0 30) w30,
seqO (r_clone 1 1 s30 0 31) w31,
qMov s31 w7] 8)
(.seq (.region [qMov s5 w32,
qMov s5 w33,
seqO (r_nilCheck s33 0 34) w34,
qFad 1 s34 w35,
qLd s35 w36,
qMov s6 w37,
seqO (r_slice 1 s36 none (some s37) none 0 38) w38,
seqO (r_clone 1 1 s38 0 39) w39,
seqO (r_nilCheck s32 0 40) w40,
qFad 1 s40 w41,
seqO (r_store 1 s41 s39 0 0) wN] 11)
(.seq (.region [qMov s0 w42,
seqO (r_call 68 [s42] 0 43) w43,
seqO (r_nilCheck s43 0 44) w44,
qFad 2 s44 w45,
qLd s45 w46,
qMov s1 w47,
seqO (r_conv .u64 s47 0 48) w48,
qBin bSub .sub s46 s48 w49,
seqO (r_nilCheck s43 0 50) w50,
qFad 2 s50 w51,
seqO (r_store 1 s51 s49 0 0) wN] 11)
(.seq (.region [qMov s7 w52,
qMov s52 w4] 2)
.ret))))))),true⟩
def q134:QFn:=⟨8,[.cell s16 2 true,.t s17,.t s18],
(.seq (.region [seqO (r_box s0 0 8) w8,
seqO (r_box s1 0 9) w9,
seqO (r_alloc [u0,oF] 0 16) w16,
qMov (cu 0) w17,
qMov (cn 0) w18] 5)
(.seq (.seq (.region [seqO (r_load 2 true s8 0 35) w35,
seqO (r_callF 106 [s35] 0 36) w36,
qMov s36 w19] 3)
(.seq (.region [qMov s19 w37,
qBin bNeq .neq s37 (cn 0) w38] 2)
(.cond s38 (.seq (.region [seqO (r_build [u0,oF] [] 0 39) w39,
qMov s19 w40,
seqO (r_store 2 s16 s39 0 0) wN,
qMov (cu 0) w17,
qMov s40 w18] 5)
.ret)
.skip)))
(.seq (.seq (.region [seqO (r_load 3 true s9 0 41) w41,
seqO (r_callF 107 [s41] 0 42) w42,
qMov s42 w20] 3)
(.seq (.region [qMov s20 w43,
qBin bNeq .neq s43 (cn 0) w44] 2)
(.cond s44 (.seq (.region [seqO (r_build [u0,oF] [] 0 45) w45,
qMov s20 w46,
seqO (r_store 2 s16 s45 0 0) wN,
qMov (cu 0) w17,
qMov s46 w18] 5)
.ret)
.skip)))
(.seq (.seq (.region [qMov s2 w47,
qBin bLss .lss s47 (cn 0) w48,
qMov s48 w49,
gdO s49 false w50 (qMov s2 w50),
gdO s49 false w51 (qFad 2 s9 w51),
gdO s49 false w52 (qLd s51 w52),
gdO s49 false w53 (seqO (r_len s52 0 53) w53),
gdO s49 false w54 (qBin bGeq .geq s50 s53 w54),
qPick s49 cT s54 w55,
qMov s55 w56,
gdO s56 false w57 (qMov s4 w57),
gdO s56 false w58 (qMov s5 w58),
gdO s56 false w59 (seqO (r_callF 190 [s57,s58] 0 59) w59),
gdO s56 false w60 (seqO (r_un .not s59 0 60) w60),
qPick s56 cT s60 w61,
qMov s61 w62,
gdO s62 false w63 (qMov s7 w63),
gdO s62 false w64 (qBin bLss .lss s63 (cn 0) w64),
qPick s62 cT s64 w65,
qMov s65 w66,
gdO s66 false w67 (qMov s7 w67),
gdO s66 false w68 (qBin bGtr .gtr s67 (cn 4096) w68),
qPick s66 cT s68 w69] 23)
(.cond s69 (.seq (.region [seqO (r_build [u0,oF] [] 0 70) w70,
seqO (r_store 2 s16 s70 0 0) wN,
qMov (cu 0) w17,
qMov (cn 2) w18] 4)
.ret)
.skip))
(.seq (.region [seqO (r_load 3 true s9 0 72) w72,
qMov s2 w73,
seqO (r_call 188 [s72,s73] 0 74) w74,
qMov s74 w71,
seqO (r_extract s71 0 0 75) w75,
seqO (r_extract s71 1 0 76) w76,
qMov s75 w21,
qMov s76 w22] 8)
(.seq (.region [qMov s22 w77,
qBin bAdd .add (cn 24) s77 w78,
seqO (r_makeSlice 1 1 [db] s78 s78 1 79) w79,
qMov s79 w23] 4)
(.seq (.seq (.region [qMov s3 w80,
qMov s4 w81,
qMov s5 w82,
seqO (r_build [u0,u0,u0] [(0,1,s80),(1,1,s81),(2,1,s82)] 0 83) w83,
qMov (cn 0) w84] 5)
(.block 0 (.loop (.seq (.region [qBin bLss .lss s84 (cn 3) w85] 1)
(.seq (.cond s85 .skip
(.exit 0))
(.seq (.block 1 (.seq (.region [qMov s84 w86,
seqO (r_indexA 3 1 false s83 s84 0 87) w87,
qMov s86 w24,
qMov s87 w25] 4)
(.seq (.region [qMov (cn 0) w88] 1)
(.block 2 (.loop (.seq (.region [qBin bLss .lss s88 (cn 8) w89] 1)
(.seq (.cond s89 .skip
(.exit 2))
(.seq (.block 3 (.seq (.region [qMov s88 w90,
qMov s90 w26] 2)
(.region [qMov s23 w91,
qMov s24 w92,
qBin (bGen .mul) .mul (cn 8) s92 w93,
qMov s26 w94,
qBin bAdd .add s93 s94 w95,
qMov s25 w96,
qMov s26 w97,
qBin (bGen .mul) .mul (cn 8) s97 w98,
qBin (bGen .shr) .shr s96 s98 w99,
seqO (r_conv .u8 s99 0 100) w100,
seqO (r_indexAddr 1 s91 s95 0 101) w101,
seqO (r_store 1 s101 s100 0 0) wN] 12)))
(.region [qBin bAdd .add s88 (cn 1) w102,
qMov s102 w88] 2)))))))))
(.region [qBin bAdd .add s84 (cn 1) w103,
qMov s103 w84] 2)))))))
(.seq (.seq (.draw [⟨(r_fieldAddr 2 s9 0 104),w104,0⟩,
⟨(r_load 1 false s104 0 105),w105,1⟩,
⟨(r_mov s2 0 106),w106,0⟩,
⟨(r_indexAddr 7 s105 s106 0 107),w107,7⟩,
⟨(r_fieldAddr 3 s107 0 108),w108,15⟩,
⟨(r_load 1 false s108 0 109),w109,31⟩,
⟨(r_fieldAddr 2 s9 0 110),w110,0⟩,
⟨(r_load 1 false s110 0 111),w111,64⟩,
⟨(r_mov s2 0 112),w112,0⟩,
⟨(r_indexAddr 7 s111 s112 0 113),w113,448⟩,
⟨(r_fieldAddr 1 s113 0 114),w114,960⟩,
⟨(r_load 1 false s114 0 115),w115,1984⟩,
⟨(r_slice 2 s109 none (some s115) none 0 116),w116,4095⟩,
⟨(r_len s116 0 117),w117,8191⟩,
⟨(r_mov (cn 0) 0 118),w118,0⟩] 15)
(.block 4 (.loop (.seq (.region [qBin bLss .lss s118 s117 w119] 1)
(.seq (.cond s119 .skip
(.exit 4))
(.seq (.block 5 (.seq (.region [qMov s118 w120,
seqO (r_indexAddr 2 s116 s118 0 121) w121,
seqO (r_load 2 true s121 0 122) w122,
seqO (r_alloc [(.d (.sc (.string ⟨#[]⟩))),i0] 0 28) w28,
qMov s120 w27,
seqO (r_store 2 s28 s122 0 0) wN] 6)
(.seq (.region [qFad 0 s9 w124,
qLd s124 w125,
qFad 1 s28 w126,
qLd s126 w127,
seqO (r_callF 132 [s125,s127] 0 128) w128,
qMov s128 w123,
seqO (r_extract s123 0 0 129) w129,
seqO (r_extract s123 1 0 130) w130,
seqO (r_extract s123 2 0 131) w131,
qMov s129 w29,
qMov s130 w30,
qMov s131 w31] 12)
(.seq (.region [qMov s29 w133,
seqO (r_callF 124 [s133] 0 134) w134,
qMov s134 w132,
seqO (r_extract s132 0 0 135) w135,
seqO (r_extract s132 1 0 136) w136,
qMov s135 w32,
qMov s136 w33] 7)
(.seq (.seq (.region [qMov s6 w137,
seqO (r_len s137 0 138) w138,
qMov s32 w139,
qBin bLss .lss s138 s139 w140] 4)
(.cond s140 (.seq (.region [seqO (r_build [u0,oF] [] 0 141) w141,
seqO (r_store 2 s16 s141 0 0) wN,
qMov (cu 0) w17,
qMov (cn 2) w18] 4)
.ret)
.skip))
(.seq (.draw [⟨(r_mov s23 0 142),w142,0⟩,
⟨(r_mov s21 0 143),w143,0⟩,
⟨(r_mov s27 0 144),w144,0⟩,
⟨(r_indexAddr 1 s143 s144 0 145),w145,6⟩,
⟨(r_load 1 false s145 0 146),w146,14⟩,
⟨(r_bin .add (cn 24) s146 0 147),w147,30⟩,
⟨(r_slice 1 s142 (some s147) none none 0 148),w148,63⟩,
⟨(r_mov s6 0 149),w149,0⟩,
⟨(r_mov s29 0 150),w150,0⟩,
⟨(r_slice 1 s149 none (some s150) none 0 151),w151,384⟩,
⟨(r_copy 1 s148 s151 0 152),w152,1023⟩] 11)
(.region [qMov s6 w153,
qMov s32 w154,
seqO (r_slice 1 s153 (some s154) none none 3 155) w155,
qMov s155 w6] 4)))))))
(.region [qBin bAdd .add s118 (cn 1) w156,
qMov s156 w118] 2)))))))
(.seq (.seq (.region [qMov s6 w157,
seqO (r_len s157 0 158) w158,
qBin bGtr .gtr s158 (cn 0) w159] 3)
(.cond s159 (.seq (.region [seqO (r_build [u0,oF] [] 0 160) w160,
seqO (r_store 2 s16 s160 0 0) wN,
qMov (cu 0) w17,
qMov (cn 2) w18] 4)
.ret)
.skip))
(.seq (.seq (.region [qFad 1 s8 w161,
qLd s161 w162,
seqO (r_len s162 0 163) w163,
qMov s23 w164,
seqO (r_len s164 0 165) w165,
qBin bAdd .add s163 s165 w166,
qMov s7 w167,
qBin bGtr .gtr s166 s167 w168] 8)
(.cond s168 (.seq (.region [seqO (r_build [u0,oF] [] 0 169) w169,
seqO (r_store 2 s16 s169 0 0) wN,
qMov (cu 0) w17,
qMov (cn 18) w18] 4)
.ret)
.skip))
(.seq (.region [qFad 0 s8 w170,
qLd s170 w171,
qFad 1 s8 w172,
qLd s172 w173,
seqO (r_len s173 0 174) w174,
seqO (r_conv .u64 s174 0 175) w175,
qBin bAdd .add s171 s175 w176,
qMov s176 w34] 8)
(.seq (.draw [⟨(r_fieldAddr 0 s8 0 177),w177,0⟩,
⟨(r_load 1 false s177 0 178),w178,1⟩,
⟨(r_fieldAddr 1 s8 0 179),w179,0⟩,
⟨(r_load 1 false s179 0 180),w180,4⟩,
⟨(r_mov s23 0 181),w181,0⟩,
⟨(r_buildSlice 1 2 [(.sl [])] [(0,s180),(1,s181)] 0 182),w182,28⟩,
⟨(r_call 125 [s182] 0 183),w183,60⟩,
⟨(r_build [u0,oF] [(0,1,s178),(1,1,s183)] 0 184),w184,127⟩,
⟨(r_mov s34 0 185),w185,0⟩,
⟨(r_store 2 s16 s184 0 0),wN,255⟩,
⟨(r_mov s185 0 17),w17,1023⟩,
⟨(r_mov (cn 0) 0 18),w18,2047⟩] 12)
.ret)))))))))))),false⟩
def q135:QFn:=⟨2,[.t s4],
(.seq (.region [qMov (cu 0) w4] 1)
(.seq (.region [qMov s0 w5,
qBin bAdd .add s5 (cn 1) w6,
seqO (r_conv .u64 s6 0 7) w7,
qBin (bGen .mul) .mul (cu 256) s7 w8,
qMov s1 w9,
seqO (r_conv .u64 s9 0 10) w10,
qBin bAdd .add s8 s10 w11,
qMov s11 w4] 8)
.ret)),false⟩
def q136:QFn:=⟨1,[.t s2],
(.seq (.region [qMov (cu 0) w2] 1)
(.seq (.region [qMov (cu 0) w3] 1)
(.seq (.seq (.region [qMov (cn 0) w5] 1)
(.block 0 (.loop (.seq (.region [qBin bLss .lss s5 (cn 8) w6] 1)
(.seq (.cond s6 .skip
(.exit 0))
(.seq (.block 1 (.seq (.region [qMov s5 w7,
qMov s7 w4] 2)
(.region [qMov s3 w8,
qMov s0 w9,
qMov s4 w10,
seqO (r_indexAddr 1 s9 s10 0 11) w11,
qLd s11 w12,
seqO (r_conv .u64 s12 0 13) w13,
qMov s4 w14,
qBin (bGen .mul) .mul (cn 8) s14 w15,
qBin (bGen .shl) .shl s13 s15 w16,
qBin (bGen .or) .or s8 s16 w17,
qMov s17 w3] 11)))
(.region [qBin bAdd .add s5 (cn 1) w18,
qMov s18 w5] 2)))))))
(.seq (.region [qMov s3 w19,
qMov s19 w2] 2)
.ret)))),false⟩
def q137:QFn:=⟨3,[.cell s6 2 true,.t s7,.t s8],
(.seq (.region [seqO (r_box s0 0 3) w3,
seqO (r_box s1 0 4) w4,
seqO (r_alloc [u0,oF] 0 6) w6,
qMov (cu 0) w7,
qMov (cn 0) w8] 5)
(.seq (.seq (.region [seqO (r_load 2 true s3 0 18) w18,
qMov s2 w19,
seqO (r_callF 76 [s18,s19] 0 20) w20,
qMov s20 w17,
seqO (r_extract s17 0 0 21) w21,
seqO (r_extract s17 1 0 22) w22,
qMov s21 w9,
qMov s22 w10] 8)
(.seq (.region [qMov s10 w23,
qBin bNeq .neq s23 (cn 0) w24] 2)
(.cond s24 (.seq (.region [seqO (r_build [u0,oF] [] 0 25) w25,
qMov s10 w26,
seqO (r_store 2 s6 s25 0 0) wN,
qMov (cu 0) w7,
qMov s26 w8] 5)
.ret)
.skip)))
(.seq (.seq (.region [seqO (r_load 5 true s4 0 27) w27,
seqO (r_callF 209 [s27] 0 28) w28,
seqO (r_un .not s28 0 29) w29] 3)
(.cond s29 (.seq (.region [seqO (r_build [u0,oF] [] 0 30) w30,
seqO (r_store 2 s6 s30 0 0) wN,
qMov (cu 0) w7,
qMov (cn 2) w8] 4)
.ret)
.skip))
(.seq (.region [seqO (r_load 2 true s3 0 32) w32,
qMov s2 w33,
seqO (r_call 194 [s32,(cn 40),s33] 0 34) w34,
qMov s34 w31,
seqO (r_extract s31 0 0 35) w35,
seqO (r_extract s31 1 0 36) w36,
seqO (r_extract s31 2 0 37) w37,
seqO (r_alloc [u0,oF] 0 11) w11,
seqO (r_store 2 s11 s35 0 0) wN,
qMov s36 w12,
qMov s37 w13] 11)
(.seq (.seq (.region [qMov s13 w38,
qBin bNeq .neq s38 (cn 0) w39] 2)
(.cond s39 (.seq (.region [seqO (r_build [u0,oF] [] 0 40) w40,
qMov s13 w41,
seqO (r_store 2 s6 s40 0 0) wN,
qMov (cu 0) w7,
qMov s41 w8] 5)
.ret)
.skip))
(.seq (.region [qFad 0 s4 w42,
qLd s42 w43,
qFad 1 s4 w44,
qLd s44 w45,
qFad 2 s4 w46,
qLd s46 w47,
seqO (r_conv .u64 s47 0 48) w48,
qFad 4 s4 w49,
qLd s49 w50,
seqO (r_build [u0,u0,u0,u0,u0] [(0,1,s43),(1,1,s45),(2,1,s48),(3,1,(cu 0)),(4,1,s50)] 0 51) w51,
seqO (r_alloc [u0,u0,u0,u0,u0] 0 14) w14,
seqO (r_store 5 s14 s51 0 0) wN] 12)
(.seq (.seq (.region [qFad 3 s4 w52,
qLd s52 w53] 2)
(.cond s53 (.region [seqO (r_indexArr 5 1 s14 (cn 3) 0 54) w54,
seqO (r_store 1 s54 (cu 1) 0 0) wN] 2)
.skip))
(.seq (.seq (.region [seqO (r_load 5 true s14 0 55) w55,
qMov (cn 0) w56] 2)
(.block 0 (.loop (.seq (.region [qBin bLss .lss s56 (cn 5) w57] 1)
(.seq (.cond s57 .skip
(.exit 0))
(.seq (.block 1 (.seq (.region [qMov s56 w58,
seqO (r_indexA 5 1 false s55 s56 0 59) w59,
qMov s58 w15,
qMov s59 w16] 4)
(.seq (.region [seqO (r_load 2 true s11 0 61) w61,
qMov s12 w62,
qMov s15 w63,
qBin (bGen .mul) .mul (cn 8) s63 w64,
seqO (r_conv .u64 s64 0 65) w65,
qBin bAdd .add s62 s65 w66,
qMov s16 w67,
seqO (r_call 210 [s61,s66,(cn 8),s67] 0 68) w68,
qMov s68 w60,
seqO (r_extract s60 0 0 69) w69,
seqO (r_extract s60 1 0 70) w70,
seqO (r_store 2 s11 s69 0 0) wN,
qMov s70 w13] 13)
(.seq (.region [qMov s13 w71,
qBin bNeq .neq s71 (cn 0) w72] 2)
(.cond s72 (.seq (.region [seqO (r_build [u0,oF] [] 0 73) w73,
qMov s13 w74,
seqO (r_store 2 s6 s73 0 0) wN,
qMov (cu 0) w7,
qMov s74 w8] 5)
.ret)
.skip)))))
(.region [qBin bAdd .add s56 (cn 1) w75,
qMov s75 w56] 2)))))))
(.seq (.region [seqO (r_load 2 true s11 0 76) w76,
qMov s12 w77,
seqO (r_store 2 s6 s76 0 0) wN,
qMov s77 w7,
qMov (cn 0) w8] 5)
.ret))))))))),false⟩
def q138:QFn:=⟨3,[.cell s6 5 true,.t s7,.t s8],
(.seq (.region [seqO (r_box s0 0 3) w3,
seqO (r_alloc [u0,u0,i0,(.d (.sc (.bool false))),u0] 0 6) w6,
qMov cF w7,
qMov (cn 0) w8] 4)
(.seq (.seq (.region [seqO (r_load 2 true s3 0 14) w14,
seqO (r_callF 76 [s14,(cn 0)] 0 15) w15,
qMov s15 w13,
seqO (r_extract s13 0 0 16) w16,
seqO (r_extract s13 1 0 17) w17,
qMov s16 w9,
qMov s17 w10] 7)
(.seq (.region [qMov s10 w18,
qBin bNeq .neq s18 (cn 0) w19] 2)
(.cond s19 (.seq (.region [seqO (r_build [u0,u0,i0,(.d (.sc (.bool false))),u0] [] 0 20) w20,
qMov s10 w21,
seqO (r_store 5 s6 s20 0 0) wN,
qMov cF w7,
qMov s21 w8] 5)
.ret)
.skip)))
(.seq (.seq (.region [qMov s1 w22,
qBin bEql .eql s22 (cu 0) w23] 2)
(.cond s23 (.seq (.region [seqO (r_build [u0,u0,i0,(.d (.sc (.bool false))),u0] [] 0 24) w24,
seqO (r_store 5 s6 s24 0 0) wN,
qMov cF w7,
qMov (cn 0) w8] 4)
.ret)
.skip))
(.seq (.region [seqO (r_load 2 true s3 0 26) w26,
qMov s1 w27,
seqO (r_callF 77 [s26,s27] 0 28) w28,
qMov s28 w25,
seqO (r_extract s25 0 0 29) w29,
seqO (r_extract s25 1 0 30) w30,
seqO (r_alloc [u0,u0,i0,(.d (.sc (.bool false))),u0] 0 11) w11,
seqO (r_store 5 s11 s29 0 0) wN,
qMov s30 w12] 9)
(.seq (.seq (.region [qMov s12 w31,
qBin bNeq .neq s31 (cn 0) w32,
qMov s32 w33,
gdO s33 false w34 (qFad 1 s11 w34),
gdO s33 false w35 (qLd s34 w35),
gdO s33 false w36 (qMov s2 w36),
gdO s33 false w37 (qBin bNeq .neq s35 s36 w37),
qPick s33 cT s37 w38] 8)
(.cond s38 (.seq (.region [seqO (r_build [u0,u0,i0,(.d (.sc (.bool false))),u0] [] 0 39) w39,
qMov s12 w40,
seqO (r_store 5 s6 s39 0 0) wN,
qMov cF w7,
qMov s40 w8] 5)
.ret)
.skip))
(.seq (.region [seqO (r_load 5 true s11 0 41) w41,
seqO (r_store 5 s6 s41 0 0) wN,
qMov cT w7,
qMov (cn 0) w8] 4)
.ret)))))),false⟩
def q139:QFn:=⟨4,[.cell s8 2 true],
(.seq (.region [seqO (r_box s1 0 5) w5,
seqO (r_alloc [b0,i0] 0 8) w8] 2)
(.seq (.seq (.draw [⟨(r_fieldAddr 2 s5 0 13),w13,0⟩,
⟨(r_load 1 false s13 0 14),w14,1⟩,
⟨(r_mov s0 0 15),w15,0⟩,
⟨(r_nilCheck s15 0 16),w16,4⟩,
⟨(r_fieldAddr 0 s16 0 17),w17,12⟩,
⟨(r_fieldAddr 0 s17 0 18),w18,28⟩,
⟨(r_fieldAddr 2 s18 0 19),w19,60⟩,
⟨(r_load 1 false s19 0 20),w20,124⟩,
⟨(r_len s20 0 21),w21,252⟩,
⟨(r_bin .geq s14 s21 0 22),w22,511⟩] 10)
(.cond s22 (.seq (.region [seqO (r_callF 130 [] 0 23) w23,
seqO (r_store 2 s8 s23 0 0) wN] 2)
.ret)
.skip))
(.seq (.draw [⟨(r_mov s0 0 24),w24,0⟩,
⟨(r_nilCheck s24 0 25),w25,1⟩,
⟨(r_fieldAddr 0 s25 0 26),w26,3⟩,
⟨(r_fieldAddr 0 s26 0 27),w27,7⟩,
⟨(r_fieldAddr 2 s27 0 28),w28,15⟩,
⟨(r_load 1 false s28 0 29),w29,31⟩,
⟨(r_fieldAddr 2 s5 0 30),w30,0⟩,
⟨(r_load 1 false s30 0 31),w31,64⟩,
⟨(r_indexAddr 7 s29 s31 0 32),w32,255⟩,
⟨(r_load 7 true s32 0 33),w33,511⟩,
⟨(r_alloc [(.d (.sc (.string ⟨#[]⟩))),i0,i0,oF,oF,oF,oF] 0 9),w9,0⟩,
⟨(r_store 7 s9 s33 0 0),wN,2047⟩] 12)
(.seq (.seq (.region [qFad 2 s9 w34,
qLd s34 w35,
qBin bGeq .geq s35 (cn 0) w36,
qMov s36 w37,
gdO s37 false w38 (qFad 1 s9 w38),
gdO s37 false w39 (qLd s38 w39),
gdO s37 false w40 (qBin bGtr .gtr s39 (cn 1) w40),
qPick s37 cT s40 w41,
qMov s41 w42,
gdO s42 false w43 (qFad 3 s5 w43),
gdO s42 false w44 (qLd s43 w44),
gdO s42 false w45 (qFad 1 s9 w45),
gdO s42 false w46 (qLd s45 w46),
gdO s42 false w47 (qBin bEql .eql s46 (cn 1) w47),
gdO s42 false w48 (seqO (r_eqb true s44 s47 0 48) w48),
qPick s42 cT s48 w49] 16)
(.cond s49 (.seq (.region [seqO (r_callF 130 [] 0 50) w50,
seqO (r_store 2 s8 s50 0 0) wN] 2)
.ret)
.skip))
(.seq (.region [qMov (cK oF) w10] 1)
(.seq (.seq (.region [qFad 3 s5 w51,
qLd s51 w52] 2)
(.cond s52 (.seq (.draw [⟨(r_mov s0 0 53),w53,0⟩,
⟨(r_nilCheck s53 0 54),w54,1⟩,
⟨(r_fieldAddr 0 s54 0 55),w55,3⟩,
⟨(r_fieldAddr 0 s55 0 56),w56,7⟩,
⟨(r_fieldAddr 0 s56 0 57),w57,15⟩,
⟨(r_load 1 false s57 0 58),w58,31⟩,
⟨(r_fieldAddr 3 s9 0 59),w59,0⟩,
⟨(r_load 1 false s59 0 60),w60,64⟩,
⟨(r_indexAddr 2 s60 (cn 0) 0 61),w61,192⟩,
⟨(r_fieldAddr 1 s61 0 62),w62,448⟩,
⟨(r_load 1 false s62 0 63),w63,960⟩,
⟨(r_indexAddr 4 s58 s63 0 64),w64,2047⟩,
⟨(r_fieldAddr 0 s64 0 65),w65,4095⟩,
⟨(r_load 1 false s65 0 66),w66,8191⟩,
⟨(r_mov s66 0 11),w11,16383⟩] 15)
(.seq (.seq (.region [qMov s11 w67,
qBin bNeq .neq s67 (cb 1) w68,
qMov s68 w69,
gdO s69 true w70 (qMov s11 w70),
gdO s69 true w71 (qBin bNeq .neq s70 (cb 2) w71),
qPick s69 s71 cF w72,
qMov s72 w73,
gdO s73 true w74 (qMov s11 w74),
gdO s73 true w75 (qBin bNeq .neq s74 (cb 4) w75),
qPick s73 s75 cF w76] 10)
(.cond s76 (.seq (.region [seqO (r_callF 130 [] 0 77) w77,
seqO (r_store 2 s8 s77 0 0) wN] 2)
.ret)
.skip))
(.region [qFad 4 s5 w78,
qLd s78 w79,
seqO (r_call 211 [s79] 0 80) w80,
qMov s80 w10] 4)))
.skip))
(.seq (.draw [⟨(r_mov s0 0 81),w81,0⟩,
⟨(r_mov s0 0 82),w82,0⟩,
⟨(r_nilCheck s82 0 83),w83,2⟩,
⟨(r_fieldAddr 12 s83 0 84),w84,6⟩,
⟨(r_load 1 false s84 0 85),w85,14⟩,
⟨(r_fieldAddr 2 s5 0 86),w86,0⟩,
⟨(r_load 1 false s86 0 87),w87,32⟩,
⟨(r_mov s0 0 88),w88,0⟩,
⟨(r_call 68 [s88] 1179452215509244706816 89),w89,128⟩,
⟨(r_nilCheck s89 0 90),w90,384⟩,
⟨(r_fieldAddr 1 s90 0 91),w91,896⟩,
⟨(r_load 1 false s91 0 92),w92,1920⟩,
⟨(r_mov s2 0 93),w93,0⟩,
⟨(r_mov s3 0 94),w94,0⟩,
⟨(r_mov s10 0 95),w95,0⟩,
⟨(r_call 67 [s81,s85,s87,s92,s93,s94,s95] 13194139533312 96),w96,32767⟩,
⟨(r_alloc [b0,i0] 0 12),w12,0⟩,
⟨(r_store 2 s12 s96 0 0),wN,131071⟩] 18)
(.seq (.draw [⟨(r_mov s0 0 97),w97,0⟩,
⟨(r_call 68 [s97] 5497558138880 98),w98,1⟩,
⟨(r_fieldAddr 0 s5 0 99),w99,0⟩,
⟨(r_load 1 false s99 0 100),w100,4⟩,
⟨(r_nilCheck s98 0 101),w101,15⟩,
⟨(r_fieldAddr 3 s101 0 102),w102,31⟩,
⟨(r_store 1 s102 s100 0 0),wN,63⟩] 7)
(.seq (.region [seqO (r_load 2 true s12 0 103) w103,
seqO (r_store 2 s8 s103 0 0) wN] 2)
.ret))))))))),true⟩
end
end Go.Proofs.YtleacocdepjflaaGreat
