/- The functions, as tables over places; each is what the program has. -/
import Derived.Test.YtnhbhdopamdgpaaGreatDoorEngQn
import Derived.Test.YtnhbhdopamdgpaaGreatDoorEngMemo
import Derived.Test.YtnhbhdopamdgpaaGreatDoorRows
import Derived.ProofKit
namespace Go.Proofs.YtnhbhdopamdgpaaGreatDoor
open Go Go.Eng
set_option maxRecDepth 100000
noncomputable section
def q7:QFn:=⟨2,[.t s4],
(.seq (.region [qMov cF w4] 1)
(.seq (.region [qMov s0 w12,
seqO (r_call 16 [s12] 0 13) w13,
qMov s13 w11,
seqO (r_extract s11 0 0 14) w14,
seqO (r_extract s11 1 0 15) w15,
seqO (r_extract s11 2 0 16) w16,
seqO (r_alloc [(.own [] .full),(.own [] .full),(.own [] .full)] 0 5) w5,
seqO (r_alloc [(.own [] .full),(.d (.sc (.int .i64 0))),(.d (.sc (.int .i64 0))),(.d (.sc (.int .i64 0))),(.d (.sc (.int .i64 0)))] 0 6) w6,
seqO (r_store 3 s5 s14 0 0) wN,
seqO (r_store 5 s6 s15 0 0) wN,
qMov s16 w7] 11)
(.seq (.region [qMov s1 w18,
seqO (r_call 16 [s18] 0 19) w19,
qMov s19 w17,
seqO (r_extract s17 0 0 20) w20,
seqO (r_extract s17 1 0 21) w21,
seqO (r_extract s17 2 0 22) w22,
seqO (r_alloc [(.own [] .full),(.own [] .full),(.own [] .full)] 0 8) w8,
seqO (r_alloc [(.own [] .full),(.d (.sc (.int .i64 0))),(.d (.sc (.int .i64 0))),(.d (.sc (.int .i64 0))),(.d (.sc (.int .i64 0)))] 0 9) w9,
seqO (r_store 3 s8 s20 0 0) wN,
seqO (r_store 5 s9 s21 0 0) wN,
qMov s22 w10] 11)
(.seq (.seq (.region [qMov s7 w23,
qBin bEql .eql s23 (cn 0) w24,
qMov s0 w25,
qBin bGeq .geq s25 (cb 1) w26,
qMov s26 w27,
gdO s27 true w28 (qMov s0 w28),
gdO s27 true w29 (qBin bLeq .leq s28 (cb 8) w29),
qPick s27 s29 cF w30,
seqO (r_eqb true s24 s30 0 31) w31,
qMov s31 w32,
gdO s32 false w33 (qMov s10 w33),
gdO s32 false w34 (qBin bEql .eql s33 (cn 0) w34),
gdO s32 false w35 (qMov s1 w35),
gdO s32 false w36 (qBin bGeq .geq s35 (cb 1) w36),
gdO s32 false w37 (qMov s36 w37),
gdO s37 true w38 (qMov s1 w38),
gdO s37 true w39 (qBin bLeq .leq s38 (cb 8) w39),
gdO s32 false w40 (qPick s37 s39 cF w40),
gdO s32 false w41 (seqO (r_eqb true s34 s40 0 41) w41),
qPick s32 cT s41 w42] 20)
(.cond s42 (.seq (.region [qMov cF w4] 1)
.ret)
.skip))
(.seq (.seq (.region [qMov s7 w43,
qBin bNeq .neq s43 (cn 0) w44,
qMov s44 w45,
gdO s45 false w46 (qMov s10 w46),
gdO s45 false w47 (qBin bNeq .neq s46 (cn 0) w47),
qPick s45 cT s47 w48] 6)
(.cond s48 (.seq (.region [seqO (r_callF 12 [] 0 49) w49,
qMov s49 w4] 2)
.ret)
.skip))
(.seq (.region [seqO (r_load 3 true s5 0 50) w50,
seqO (r_callF 21 [s50] 0 51) w51,
qBin bEql .eql s51 (cn 0) w52,
qMov s52 w53,
gdO s53 true w54 (seqO (r_load 5 true s6 0 54) w54),
gdO s53 true w55 (seqO (r_callF 22 [s54] 0 55) w55),
gdO s53 true w56 (qBin bEql .eql s55 (cn 0) w56),
qPick s53 s56 cF w57,
qMov s57 w58,
gdO s58 true w59 (seqO (r_load 3 true s5 0 59) w59),
gdO s58 true w60 (seqO (r_load 3 true s8 0 60) w60),
gdO s58 true w61 (seqO (r_callF 11 [s59,s60] 0 61) w61),
gdO s58 true w62 (qMov s61 w62),
gdO s62 true w63 (seqO (r_load 5 true s6 0 63) w63),
gdO s62 true w64 (seqO (r_load 5 true s9 0 64) w64),
gdO s62 true w65 (seqO (r_callF 18 [s63,s64] 0 65) w65),
gdO s58 true w66 (qPick s62 s65 cF w66),
gdO s58 true w67 (qMov s0 w67),
gdO s58 true w68 (qMov s1 w68),
gdO s58 true w69 (qBin bEql .eql s67 s68 w69),
gdO s58 true w70 (seqO (r_eqb false s66 s69 0 70) w70),
qPick s58 s70 cF w71,
qMov s71 w72,
gdO s72 true w73 (seqO (r_callF 12 [] 0 73) w73),
qPick s72 s73 cF w74,
qMov s74 w4] 26)
.ret)))))),false⟩
def q9:QFn:=⟨2,[.cell s4 3 true,.t s5],
(.seq (.region [seqO (r_alloc [(.own [] .full),(.own [] .full),(.own [] .full)] 0 4) w4,
qMov (cn 0) w5] 2)
(.seq (.seq (.region [qMov s0 w11,
seqO (r_len s11 0 12) w12,
qBin bLss .lss s12 (cn 1) w13,
qMov s13 w14,
gdO s14 false w15 (qMov s0 w15),
gdO s14 false w16 (seqO (r_len s15 0 16) w16),
gdO s14 false w17 (qBin bGtr .gtr s16 (cn 20) w17),
qPick s14 cT s17 w18,
qMov s18 w19,
gdO s19 false w20 (qMov s1 w20),
gdO s19 false w21 (seqO (r_len s20 0 21) w21),
gdO s19 false w22 (qMov s0 w22),
gdO s19 false w23 (seqO (r_len s22 0 23) w23),
gdO s19 false w24 (qBin bSub .sub s23 (cn 1) w24),
gdO s19 false w25 (qBin bNeq .neq s21 s24 w25),
qPick s19 cT s25 w26] 16)
(.cond s26 (.seq (.region [seqO (r_build [(.own [] .full),(.own [] .full),(.own [] .full)] [] 0 27) w27,
seqO (r_store 3 s4 s27 0 0) wN,
qMov (cn 2) w5] 3)
.ret)
.skip))
(.seq (.region [seqO (r_build [(.d (.sc (.int .u8 0))),(.d (.sc (.int .i64 0))),(.d (.sc (.int .i64 0))),(.own [] .full)] [(0,1,(cb 2))] 0 28) w28,
seqO (r_build [(.d (.sc (.int .u8 0))),(.d (.sc (.int .i64 0))),(.d (.sc (.int .i64 0))),(.own [] .full)] [(0,1,(cb 1))] 0 29) w29,
seqO (r_buildSlice 4 2 [(.sc (.int .u8 0)),(.sc (.int .i64 0)),(.sc (.int .i64 0)),(.sl [])] [(0,s28),(1,s29)] 0 30) w30,
seqO (r_build [(.own [] .full),(.own [] .full),(.own [] .full)] [(0,1,s30)] 0 31) w31,
seqO (r_alloc [(.own [] .full),(.own [] .full),(.own [] .full)] 0 6) w6,
seqO (r_store 3 s6 s31 0 0) wN] 6)
(.seq (.seq (.region [qMov s0 w32,
seqO (r_len s32 0 33) w33,
qMov (cn 0) w34] 3)
(.block 0 (.loop (.seq (.region [qBin bLss .lss s34 s33 w35] 1)
(.seq (.cond s35 .skip
(.exit 0))
(.seq (.block 1 (.seq (.region [qMov s34 w36,
seqO (r_indexAddr 1 s32 s34 0 37) w37,
qLd s37 w38,
qMov s36 w7,
qMov s38 w8] 5)
(.seq (.region [qMov (cK (.d (.sc (.string ⟨#[]⟩)))) w9,
qMov (cK (.d (.sc (.string ⟨#[109,97,105,110]⟩)))) w10] 2)
(.seq (.seq (.region [qMov s7 w39,
qBin bGtr .gtr s39 (cn 0) w40] 2)
(.cond s40 (.seq (.region [qMov s7 w41,
seqO (r_callF 24 [s41] 0 42) w42,
qBin bAdd .add (cK (.d (.sc (.string ⟨#[102]⟩)))) s42 w43,
qMov s43 w10] 4)
(.seq (.region [qMov s1 w44,
qMov s7 w45,
qBin bSub .sub s45 (cn 1) w46,
seqO (r_indexAddr 1 s44 s46 0 47) w47,
qLd s47 w48] 5)
(.cond s48 (.region [qMov (cK (.d (.sc (.string ⟨#[114,101,99,111,118,101,114,32,49,32,50,59,32]⟩)))) w9] 1)
.skip)))
.skip))
(.seq (.seq (.region [qMov s7 w49,
qBin bAdd .add s49 (cn 1) w50,
qMov s0 w51,
seqO (r_len s51 0 52) w52,
qBin bLss .lss s50 s52 w53] 5)
(.cond s53 (.region [qMov s9 w54,
qMov s7 w55,
qBin bAdd .add s55 (cn 1) w56,
seqO (r_callF 24 [s56] 0 57) w57,
qBin bAdd .add (cK (.d (.sc (.string ⟨#[100,101,102,101,114,32]⟩)))) s57 w58,
qBin bAdd .add s58 (cK (.d (.sc (.string ⟨#[59,32]⟩)))) w59,
qBin bAdd .add s54 s59 w60,
qMov s60 w9] 8)
.skip))
(.seq (.region [qMov s9 w61,
qMov s8 w62,
seqO (r_callF 24 [s62] 0 63) w63,
qBin bAdd .add (cK (.d (.sc (.string ⟨#[105,110,116,32,48,32]⟩)))) s63 w64,
qBin bAdd .add s64 (cK (.d (.sc (.string ⟨#[59,32,112,97,110,105,99,32,48,59,32,114,101,116,117,114,110,32,45,49]⟩)))) w65,
qBin bAdd .add s61 s65 w66,
qMov s66 w9] 7)
(.draw [⟨r_fieldAddr 2 s6 0 67,w67,0⟩,
⟨r_load 1 false s67 0 68,w68,1⟩,
⟨r_mov s10 0 69,w69,0⟩,
⟨r_mov s9 0 70,w70,0⟩,
⟨r_call 26 [s70,(cn 0)] 0 71,w71,8⟩,
⟨r_call 25 [s69,(cK (.d (.sc (.string ⟨#[110,32,48,32,111,110,32,49,32,107,32,48]⟩)))),(cn 0),(cm 0),s71] 0 72,w72,28⟩,
⟨r_buildSlice 7 1 [(.sc (.string ⟨#[]⟩)),(.sc (.int .i64 0)),(.sc (.int .i64 0)),(.sl []),(.sl []),(.sl []),(.sl [])] [(0,s72)] 0 73,w73,60⟩,
⟨r_append 7 128 s68 s73 0 74,w74,127⟩,
⟨r_fieldAddr 2 s6 0 75,w75,255⟩,
⟨r_store 1 s75 s74 0 0,wN,511⟩] 10)))))))
(.region [qBin bAdd .add s34 (cn 1) w76,
qMov s76 w34] 2)))))))
(.seq (.region [seqO (r_load 3 true s6 0 77) w77,
seqO (r_call 27 [s77] 0 78) w78,
seqO (r_extract s78 0 0 79) w79,
seqO (r_extract s78 1 0 80) w80,
seqO (r_store 3 s4 s79 0 0) wN,
qMov s80 w5] 6)
.ret))))),false⟩
def q11:QFn:=⟨2,[.t s4],
(.seq (.region [seqO (r_box s0 0 2) w2,
seqO (r_box s1 0 3) w3,
qMov cF w4] 3)
(.seq (.seq (.region [qFad 0 s2 w7,
qLd s7 w8,
qFad 0 s3 w9,
qLd s9 w10,
seqO (r_callF 29 [s8,s10] 0 11) w11,
seqO (r_un .not s11 0 12) w12,
qMov s12 w13,
gdO s13 false w14 (qFad 1 s2 w14),
gdO s13 false w15 (qLd s14 w15),
gdO s13 false w16 (seqO (r_len s15 0 16) w16),
gdO s13 false w17 (qFad 1 s3 w17),
gdO s13 false w18 (qLd s17 w18),
gdO s13 false w19 (seqO (r_len s18 0 19) w19),
gdO s13 false w20 (qBin bNeq .neq s16 s19 w20),
qPick s13 cT s20 w21,
qMov s21 w22,
gdO s22 false w23 (qFad 2 s2 w23),
gdO s22 false w24 (qLd s23 w24),
gdO s22 false w25 (seqO (r_len s24 0 25) w25),
gdO s22 false w26 (qFad 2 s3 w26),
gdO s22 false w27 (qLd s26 w27),
gdO s22 false w28 (seqO (r_len s27 0 28) w28),
gdO s22 false w29 (qBin bNeq .neq s25 s28 w29),
qPick s22 cT s29 w30] 24)
(.cond s30 (.seq (.region [qMov cF w4] 1)
.ret)
.skip))
(.seq (.seq (.region [qMov (cn 0) w5] 1)
(.block 0 (.loop (.seq (.seq (.region [qMov s5 w31,
qFad 1 s2 w32,
qLd s32 w33,
seqO (r_len s33 0 34) w34,
qBin bLss .lss s31 s34 w35] 5)
(.cond s35 .skip
(.exit 0)))
(.seq (.block 1 (.seq (.draw [⟨r_fieldAddr 1 s2 0 38,w38,0⟩,
⟨r_load 1 false s38 0 39,w39,1⟩,
⟨r_mov s5 0 40,w40,0⟩,
⟨r_indexAddr 1 s39 s40 0 41,w41,7⟩,
⟨r_load 1 false s41 0 42,w42,15⟩,
⟨r_fieldAddr 1 s3 0 43,w43,0⟩,
⟨r_load 1 false s43 0 44,w44,32⟩,
⟨r_mov s5 0 45,w45,0⟩,
⟨r_indexAddr 1 s44 s45 0 46,w46,224⟩,
⟨r_load 1 false s46 0 47,w47,480⟩,
⟨r_bin .neq s42 s47 0 48,w48,1023⟩] 11)
(.cond s48 (.seq (.region [qMov cF w4] 1)
.ret)
.skip)))
(.region [qMov s5 w36,
qBin bAdd .add s36 (cn 1) w37,
qMov s37 w5] 3))))))
(.seq (.seq (.region [qMov (cn 0) w6] 1)
(.block 2 (.loop (.seq (.seq (.region [qMov s6 w49,
qFad 2 s2 w50,
qLd s50 w51,
seqO (r_len s51 0 52) w52,
qBin bLss .lss s49 s52 w53] 5)
(.cond s53 .skip
(.exit 2)))
(.seq (.block 3 (.seq (.draw [⟨r_fieldAddr 2 s2 0 56,w56,0⟩,
⟨r_load 1 false s56 0 57,w57,1⟩,
⟨r_mov s6 0 58,w58,0⟩,
⟨r_indexAddr 7 s57 s58 0 59,w59,7⟩,
⟨r_load 7 true s59 0 60,w60,15⟩,
⟨r_fieldAddr 2 s3 0 61,w61,0⟩,
⟨r_load 1 false s61 0 62,w62,32⟩,
⟨r_mov s6 0 63,w63,0⟩,
⟨r_indexAddr 7 s62 s63 0 64,w64,224⟩,
⟨r_load 7 true s64 0 65,w65,480⟩,
⟨r_callF 30 [s60,s65] 0 66,w66,1023⟩,
⟨r_un .not s66 0 67,w67,2047⟩] 12)
(.cond s67 (.seq (.region [qMov cF w4] 1)
.ret)
.skip)))
(.region [qMov s6 w54,
qBin bAdd .add s54 (cn 1) w55,
qMov s55 w6] 3))))))
(.seq (.region [qMov cT w4] 1)
.ret))))),false⟩
def q12:QFn:=⟨0,[.t s0],
(.seq (.region [qMov cF w0] 1)
(.seq (.region [seqO (r_call 13 [(cK (.own [] .full))] 0 10) w10,
qMov s10 w9,
seqO (r_extract s9 0 0 11) w11,
seqO (r_extract s9 1 0 12) w12,
seqO (r_alloc [(.own [] .full),(.own [] .full),(.own [] .full)] 0 1) w1,
seqO (r_store 3 s1 s11 0 0) wN,
qMov s12 w2] 7)
(.seq (.region [seqO (r_buildSlice 1 1 [(.sc (.int .i64 0))] [(0,(cn 24))] 0 14) w14,
seqO (r_call 13 [s14] 0 15) w15,
qMov s15 w13,
seqO (r_extract s13 0 0 16) w16,
seqO (r_extract s13 1 0 17) w17,
seqO (r_alloc [(.own [] .full),(.own [] .full),(.own [] .full)] 0 3) w3,
seqO (r_store 3 s3 s16 0 0) wN,
qMov s17 w4] 8)
(.seq (.region [seqO (r_buildSlice 1 3 [(.sc (.int .i64 0))] [(0,(cn 1)),(1,(cn 2)),(2,(cn 3))] 0 19) w19,
seqO (r_buildSlice 1 2 [(.sc (.bool false))] [(0,cT),(1,cF)] 0 20) w20,
seqO (r_call 9 [s19,s20] 0 21) w21,
qMov s21 w18,
seqO (r_extract s18 0 0 22) w22,
seqO (r_extract s18 1 0 23) w23,
seqO (r_alloc [(.own [] .full),(.own [] .full),(.own [] .full)] 0 5) w5,
seqO (r_store 3 s5 s22 0 0) wN,
qMov s23 w6] 9)
(.seq (.seq (.region [qMov s2 w24,
qBin bNeq .neq s24 (cn 0) w25,
qMov s25 w26,
gdO s26 false w27 (qMov s4 w27),
gdO s26 false w28 (qBin bNeq .neq s27 (cn 0) w28),
qPick s26 cT s28 w29,
qMov s29 w30,
gdO s30 false w31 (qMov s6 w31),
gdO s30 false w32 (qBin bNeq .neq s31 (cn 0) w32),
qPick s30 cT s32 w33,
qMov s33 w34,
gdO s34 false w35 (qFad 2 s1 w35),
gdO s34 false w36 (qLd s35 w36),
gdO s34 false w37 (seqO (r_len s36 0 37) w37),
gdO s34 false w38 (qBin bNeq .neq s37 (cn 8) w38),
qPick s34 cT s38 w39,
qMov s39 w40,
gdO s40 false w41 (qFad 2 s3 w41),
gdO s40 false w42 (qLd s41 w42),
gdO s40 false w43 (seqO (r_len s42 0 43) w43),
gdO s40 false w44 (qBin bNeq .neq s43 (cn 8) w44),
qPick s40 cT s44 w45,
qMov s45 w46,
gdO s46 false w47 (qFad 2 s5 w47),
gdO s46 false w48 (qLd s47 w48),
gdO s46 false w49 (seqO (r_len s48 0 49) w49),
gdO s46 false w50 (qBin bNeq .neq s49 (cn 3) w50),
qPick s46 cT s50 w51,
qMov s51 w52,
gdO s52 false w53 (qFad 2 s1 w53),
gdO s52 false w54 (qLd s53 w54),
gdO s52 false w55 (seqO (r_indexAddr 7 s54 (cn 0) 0 55) w55),
gdO s52 false w56 (qFad 4 s55 w56),
gdO s52 false w57 (qLd s56 w57),
gdO s52 false w58 (seqO (r_len s57 0 58) w58),
gdO s52 false w59 (qBin bNeq .neq s58 (cn 10) w59),
qPick s52 cT s59 w60,
qMov s60 w61,
gdO s61 false w62 (qFad 2 s3 w62),
gdO s61 false w63 (qLd s62 w63),
gdO s61 false w64 (seqO (r_indexAddr 7 s63 (cn 0) 0 64) w64),
gdO s61 false w65 (qFad 4 s64 w65),
gdO s61 false w66 (qLd s65 w66),
gdO s61 false w67 (seqO (r_len s66 0 67) w67),
gdO s61 false w68 (qBin bNeq .neq s67 (cn 12) w68),
qPick s61 cT s68 w69] 46)
(.cond s69 (.seq (.region [qMov cF w0] 1)
.ret)
.skip))
(.seq (.region [seqO (r_callF 19 [(cb 34),(cm 0),(cn 0)] 0 70) w70,
seqO (r_alloc [(.d (.sc (.int .u8 0))),(.d (.sc (.int .i64 0))),(.d (.sc (.int .i64 0))),(.d (.sc (.int .i64 0)))] 0 7) w7,
seqO (r_store 4 s7 s70 0 0) wN] 3)
(.seq (.draw [⟨r_fieldAddr 2 s3 0 71,w71,0⟩,
⟨r_load 1 false s71 0 72,w72,1⟩,
⟨r_indexAddr 7 s72 (cn 0) 0 73,w73,3⟩,
⟨r_fieldAddr 4 s73 0 74,w74,7⟩,
⟨r_load 1 false s74 0 75,w75,15⟩,
⟨r_indexAddr 4 s75 (cn 9) 0 76,w76,31⟩,
⟨r_load 4 true s76 0 77,w77,63⟩,
⟨r_callF 19 [(cb 24),(cn 0),(cn 0)] 0 78,w78,0⟩,
⟨r_eqA false 4 [(0,1),(1,1),(2,1),(3,1)] s77 s78 0 79,w79,255⟩,
⟨r_mov s79 0 80,w80,511⟩,
⟨gdR s80 true (r_fieldAddr 2 s3 0 81),w81,1023⟩,
⟨gdR s80 true (r_load 1 false s81 0 82),w82,2047⟩,
⟨gdR s80 true (r_indexAddr 7 s82 (cn 0) 0 83),w83,4095⟩,
⟨gdR s80 true (r_fieldAddr 4 s83 0 84),w84,8191⟩,
⟨gdR s80 true (r_load 1 false s84 0 85),w85,16383⟩,
⟨gdR s80 true (r_indexAddr 4 s85 (cn 10) 0 86),w86,32767⟩,
⟨gdR s80 true (r_load 4 true s86 0 87),w87,65535⟩,
⟨gdR s80 true (r_callF 19 [(cb 25),(cn 0),(cn 1)] 0 88),w88,1023⟩,
⟨gdR s80 true (r_eqA false 4 [(0,1),(1,1),(2,1),(3,1)] s87 s88 0 89),w89,262143⟩,
⟨r_pick s80 s89 cF 0 90,w90,524287⟩,
⟨r_mov s90 0 91,w91,1048575⟩,
⟨gdR s91 true (r_fieldAddr 2 s3 0 92),w92,2097151⟩,
⟨gdR s91 true (r_load 1 false s92 0 93),w93,4194303⟩,
⟨gdR s91 true (r_indexAddr 7 s93 (cn 0) 0 94),w94,8388607⟩,
⟨gdR s91 true (r_fieldAddr 5 s94 0 95),w95,16777215⟩,
⟨gdR s91 true (r_load 1 false s95 0 96),w96,33554431⟩,
⟨gdR s91 true (r_build [(.d (.sc (.int .i64 0))),(.d (.sc (.int .u64 0)))] [] 0 97),w97,2097151⟩,
⟨gdR s91 true (r_build [(.d (.sc (.int .i64 0))),(.d (.sc (.int .u64 0)))] [(0,1,(cn 10)),(1,1,(cu 8))] 0 98),w98,2097151⟩,
⟨gdR s91 true (r_build [(.d (.sc (.int .i64 0))),(.d (.sc (.int .u64 0)))] [(0,1,(cn 11))] 0 99),w99,2097151⟩,
⟨gdR s91 true (r_buildSlice 2 3 [(.sc (.int .i64 0)),(.sc (.int .u64 0))] [(0,s97),(1,s98),(2,s99)] 2 100),w100,471859199⟩,
⟨gdR s91 true (r_callF 31 [s96,s100] 0 101),w101,1073741823⟩,
⟨r_pick s91 s101 cF 0 102,w102,2147483647⟩,
⟨r_mov s102 0 8,w8,4294967295⟩] 33)
(.seq (.draw [⟨r_mov s8 0 103,w103,0⟩,
⟨r_mov s103 0 104,w104,1⟩,
⟨gdR s104 true (r_load 3 true s5 0 105),w105,3⟩,
⟨gdR s104 true (r_callF 19 [(cb 26),(cn 1),(cn 0)] 0 106),w106,3⟩,
⟨gdR s104 true (r_callF 19 [(cb 1),(cn 0),(cn 1)] 0 107),w107,11⟩,
⟨gdR s104 true (r_callF 19 [(cb 28),(cn 0),(cn 0)] 0 108),w108,27⟩,
⟨gdR s104 true (r_load 4 true s7 0 109),w109,3⟩,
⟨gdR s104 true (r_buildSlice 4 4 [(.sc (.int .u8 0)),(.sc (.int .i64 0)),(.sc (.int .i64 0)),(.sc (.int .i64 0))] [(0,s106),(1,s107),(2,s108),(3,s109)] 2 110),w110,123⟩,
⟨gdR s104 true (r_callF 20 [s105,(cn 0),s110] 0 111),w111,255⟩,
⟨r_pick s104 s111 cF 0 112,w112,511⟩,
⟨r_mov s112 0 113,w113,1023⟩,
⟨gdR s113 true (r_load 3 true s5 0 114),w114,2047⟩,
⟨gdR s113 true (r_callF 19 [(cb 29),(cn 1),(cn 2)] 0 115),w115,2047⟩,
⟨gdR s113 true (r_callF 19 [(cb 26),(cn 2),(cn 0)] 0 116),w116,6143⟩,
⟨gdR s113 true (r_callF 19 [(cb 1),(cn 0),(cn 2)] 0 117),w117,14335⟩,
⟨gdR s113 true (r_callF 19 [(cb 28),(cn 0),(cn 0)] 0 118),w118,30719⟩,
⟨gdR s113 true (r_load 4 true s7 0 119),w119,2047⟩,
⟨gdR s113 true (r_buildSlice 4 5 [(.sc (.int .u8 0)),(.sc (.int .i64 0)),(.sc (.int .i64 0)),(.sc (.int .i64 0))] [(0,s115),(1,s116),(2,s117),(3,s118),(4,s119)] 2 120),w120,129023⟩,
⟨gdR s113 true (r_callF 20 [s114,(cn 1),s120] 0 121),w121,262143⟩,
⟨r_pick s113 s121 cF 0 122,w122,524287⟩,
⟨r_mov s122 0 123,w123,1048575⟩,
⟨gdR s123 true (r_fieldAddr 2 s5 0 124),w124,2097151⟩,
⟨gdR s123 true (r_load 1 false s124 0 125),w125,4194303⟩,
⟨gdR s123 true (r_indexAddr 7 s125 (cn 1) 0 126),w126,8388607⟩,
⟨gdR s123 true (r_fieldAddr 0 s126 0 127),w127,16777215⟩,
⟨gdR s123 true (r_load 1 false s127 0 128),w128,33554431⟩,
⟨gdR s123 true (r_bin .eql s128 (cK (.d (.sc (.string ⟨#[102,49]⟩)))) 0 129),w129,67108863⟩,
⟨r_pick s123 s129 cF 0 130,w130,134217727⟩,
⟨r_mov s130 0 0,w0,268435455⟩] 29)
.ret)))))))),false⟩
def q13:QFn:=⟨1,[.cell s2 3 true,.t s3],
(.seq (.region [seqO (r_alloc [(.own [] .full),(.own [] .full),(.own [] .full)] 0 2) w2,
qMov (cn 0) w3] 2)
(.seq (.seq (.region [qMov s0 w7,
seqO (r_len s7 0 8) w8,
qBin bGtr .gtr s8 (cn 60) w9] 3)
(.cond s9 (.seq (.region [seqO (r_build [(.own [] .full),(.own [] .full),(.own [] .full)] [] 0 10) w10,
seqO (r_store 3 s2 s10 0 0) wN,
qMov (cn 4) w3] 3)
.ret)
.skip))
(.seq (.region [seqO (r_call 26 [(cK (.d (.sc (.string ⟨#[105,110,116,32,48,32,53,59,32,98,111,111,108,32,49,32,49,59,32,116,101,120,116,32,50,32,48,59,32,110,101,119,32,51,59,32,122,101,114,111,32,52,59,32,122,101,114,111,32,53,59,32,105,110,116,32,55,32,50,59,32,109,97,107,101,32,54,32,55,59,32,110,101,119,32,56]⟩)))),(cn 0)] 262145 11) w11,
qMov s11 w4] 2)
(.seq (.seq (.region [qMov s0 w12,
seqO (r_len s12 0 13) w13,
qMov (cn 0) w14] 3)
(.block 0 (.loop (.seq (.region [qBin bLss .lss s14 s13 w15] 1)
(.seq (.cond s15 .skip
(.exit 0))
(.seq (.block 1 (.seq (.region [seqO (r_indexAddr 1 s12 s14 0 16) w16,
qLd s16 w17,
qMov s17 w6] 3)
(.region [qMov s4 w18,
qMov s6 w19,
seqO (r_callF 32 [s19] 0 20) w20,
qMov s4 w21,
seqO (r_len s21 0 22) w22,
seqO (r_call 26 [s20,s22] 0 23) w23,
seqO (r_append 4 32 s18 s23 0 24) w24,
qMov s24 w4] 8)))
(.region [qBin bAdd .add s14 (cn 1) w25,
qMov s25 w14] 2)))))))
(.seq (.region [qMov s4 w26,
seqO (r_call 26 [(cK (.d (.sc (.string ⟨#[114,101,116,117,114,110,32,45,49]⟩)))),(cn 0)] 0 27) w27,
seqO (r_append 4 32 s26 s27 0 28) w28,
qMov s28 w4] 4)
(.seq (.region [seqO (r_build [(.d (.sc (.int .u8 0))),(.d (.sc (.int .i64 0))),(.d (.sc (.int .i64 0))),(.own [] .full)] [(0,1,(cb 2))] 0 29) w29,
seqO (r_build [(.d (.sc (.int .u8 0))),(.d (.sc (.int .i64 0))),(.d (.sc (.int .i64 0))),(.own [] .full)] [(0,1,(cb 1))] 0 30) w30,
seqO (r_build [(.d (.sc (.int .u8 0))),(.d (.sc (.int .i64 0))),(.d (.sc (.int .i64 0))),(.own [] .full)] [(0,1,(cb 3))] 0 31) w31,
seqO (r_build [(.d (.sc (.int .u8 0))),(.d (.sc (.int .i64 0))),(.d (.sc (.int .i64 0))),(.own [] .full)] [(0,1,(cb 4))] 0 32) w32,
seqO (r_build [(.d (.sc (.string ⟨#[]⟩))),(.d (.sc (.int .i64 0)))] [(0,1,(cK (.d (.sc (.string ⟨#[110]⟩)))))] 0 33) w33,
seqO (r_build [(.d (.sc (.string ⟨#[]⟩))),(.d (.sc (.int .i64 0)))] [(0,1,(cK (.d (.sc (.string ⟨#[111,110]⟩))))),(1,1,(cn 1))] 0 34) w34,
seqO (r_build [(.d (.sc (.string ⟨#[]⟩))),(.d (.sc (.int .i64 0)))] [(0,1,(cK (.d (.sc (.string ⟨#[97,116]⟩))))),(1,1,(cn 3))] 0 35) w35,
seqO (r_buildSlice 2 3 [(.sc (.string ⟨#[]⟩)),(.sc (.int .i64 0))] [(0,s33),(1,s34),(2,s35)] 0 36) w36,
seqO (r_build [(.d (.sc (.int .u8 0))),(.d (.sc (.int .i64 0))),(.d (.sc (.int .i64 0))),(.own [] .full)] [(0,1,(cb 5)),(3,1,s36)] 0 37) w37,
seqO (r_build [(.d (.sc (.int .u8 0))),(.d (.sc (.int .i64 0))),(.d (.sc (.int .i64 0))),(.own [] .full)] [(0,1,(cb 6)),(2,1,(cn 3))] 0 38) w38,
seqO (r_build [(.d (.sc (.int .u8 0))),(.d (.sc (.int .i64 0))),(.d (.sc (.int .i64 0))),(.own [] .full)] [(0,1,(cb 7))] 0 39) w39,
seqO (r_build [(.d (.sc (.int .u8 0))),(.d (.sc (.int .i64 0))),(.d (.sc (.int .i64 0))),(.own [] .full)] [(0,1,(cb 4)),(1,1,(cn 4))] 0 40) w40,
seqO (r_buildSlice 4 8 [(.sc (.int .u8 0)),(.sc (.int .i64 0)),(.sc (.int .i64 0)),(.sl [])] [(0,s29),(1,s30),(2,s31),(3,s32),(4,s37),(5,s38),(6,s39),(7,s40)] 0 41) w41,
seqO (r_buildSlice 1 3 [(.sc (.string ⟨#[]⟩))] [(0,(cK (.d (.sc (.string ⟨#[108,97,116,101]⟩))))),(1,(cK (.d (.sc (.string ⟨#[116,97,115,107]⟩))))),(2,(cK (.d (.sc (.string ⟨#[98,111,111,109]⟩)))))] 0 42) w42,
qMov s4 w43,
seqO (r_call 25 [(cK (.d (.sc (.string ⟨#[109,97,105,110]⟩)))),(cK (.d (.sc (.string ⟨#[110,32,48,32,111,110,32,49,32,115,32,50,32,112,32,51,32,114,32,52,32,97,32,53,32,108,32,54,32,107,32,48,32,113,32,55]⟩)))),(cn 0),(cm 0),s43] 9 44) w44,
seqO (r_call 26 [(cK (.d (.sc (.string ⟨#[105,110,116,32,49,32,49,59,32,108,101,115,115,32,50,32,48,32,49,59,32,98,114,97,110,99,104,32,50,32,56,59,32,115,117,98,32,49,32,48,32,49,59,32,97,114,103,32,49,59,32,99,97,108,108,32,49,32,49,59,32,97,100,100,32,49,32,49,32,48,59,32,114,101,116,117,114,110,32,49,59,32,114,101,116,117,114,110,32,48,59,32,114,101,116,117,114,110,32,45,49]⟩)))),(cn 0)] 0 45) w45,
seqO (r_call 25 [(cK (.d (.sc (.string ⟨#[119,111,114,107]⟩)))),(cK (.d (.sc (.string ⟨#[110,32,48,32,107,32,48,32,111,110,32,49]⟩)))),(cn 1),(cn 0),s45] 0 46) w46,
seqO (r_call 26 [(cK (.d (.sc (.string ⟨#[114,101,99,111,118,101,114,32,49,32,50,59,32,98,114,97,110,99,104,32,49,32,52,59,32,108,101,115,115,32,49,32,48,32,50,59,32,98,114,97,110,99,104,32,49,32,53,59,32,114,101,116,117,114,110,32,45,49,59,32,112,97,110,105,99,32,48,59,32,114,101,116,117,114,110,32,45,49]⟩)))),(cn 0)] 0 47) w47,
seqO (r_call 25 [(cK (.d (.sc (.string ⟨#[108,97,116,101]⟩)))),(cK (.d (.sc (.string ⟨#[110,32,48,32,111,110,32,49,32,107,32,48]⟩)))),(cn 1),(cm 0),s47] 0 48) w48,
seqO (r_call 26 [(cK (.d (.sc (.string ⟨#[121,105,101,108,100,59,32,119,97,107,101,32,49,32,48,59,32,98,114,97,110,99,104,32,49,32,52,59,32,98,108,111,99,107,32,48,59,32,114,101,116,117,114,110,32,45,49]⟩)))),(cn 0)] 0 49) w49,
seqO (r_call 25 [(cK (.d (.sc (.string ⟨#[116,97,115,107]⟩)))),(cK (.d (.sc (.string ⟨#[107,32,48,32,111,110,32,49]⟩)))),(cn 1),(cm 0),s49] 0 50) w50,
seqO (r_call 26 [(cK (.d (.sc (.string ⟨#[112,97,110,105,99,32,48,59,32,114,101,116,117,114,110,32,45,49]⟩)))),(cn 0)] 0 51) w51,
seqO (r_call 25 [(cK (.d (.sc (.string ⟨#[102,97,105,108]⟩)))),(cK (.d (.sc (.string ⟨#[110,32,48]⟩)))),(cn 1),(cm 0),s51] 0 52) w52,
seqO (r_call 26 [(cK (.d (.sc (.string ⟨#[101,120,105,116,59,32,114,101,116,117,114,110,32,45,49]⟩)))),(cn 0)] 0 53) w53,
seqO (r_call 25 [(cK (.d (.sc (.string ⟨#[108,101,97,118,101]⟩)))),(cK (.d (.sc (.string ⟨#[]⟩)))),(cn 0),(cm 0),s53] 0 54) w54,
seqO (r_call 26 [(cK (.d (.sc (.string ⟨#[114,101,99,111,118,101,114,32,48,32,49,59,32,114,101,116,117,114,110,32,45,49]⟩)))),(cn 0)] 0 55) w55,
seqO (r_call 25 [(cK (.d (.sc (.string ⟨#[113,117,105,101,116]⟩)))),(cK (.d (.sc (.string ⟨#[111,110,32,49,32,110,32,48]⟩)))),(cn 0),(cm 0),s55] 0 56) w56,
seqO (r_call 26 [(cK (.d (.sc (.string ⟨#[114,101,99,111,118,101,114,32,49,32,50,59,32,112,97,110,105,99,32,48,59,32,114,101,116,117,114,110,32,45,49]⟩)))),(cn 0)] 0 57) w57,
seqO (r_call 25 [(cK (.d (.sc (.string ⟨#[97,103,97,105,110]⟩)))),(cK (.d (.sc (.string ⟨#[110,32,48,32,111,110,32,49,32,107,32,48]⟩)))),(cn 1),(cm 0),s57] 0 58) w58,
seqO (r_buildSlice 7 8 [(.sc (.string ⟨#[]⟩)),(.sc (.int .i64 0)),(.sc (.int .i64 0)),(.sl []),(.sl []),(.sl []),(.sl [])] [(0,s44),(1,s46),(2,s48),(3,s50),(4,s52),(5,s54),(6,s56),(7,s58)] 0 59) w59,
seqO (r_build [(.own [] .full),(.own [] .full),(.own [] .full)] [(0,1,s41),(1,1,s42),(2,1,s59)] 0 60) w60,
seqO (r_call 27 [s60] 0 61) w61,
seqO (r_extract s61 0 0 62) w62,
seqO (r_extract s61 1 0 63) w63,
seqO (r_store 3 s2 s62 0 0) wN,
qMov s63 w3] 37)
.ret)))))),false⟩
def q14:QFn:=⟨2,[.t s4],
(.seq (.region [qMov cF w4] 1)
(.seq (.seq (.region [qMov s0 w6,
seqO (r_len s6 0 7) w7,
qMov s1 w8,
seqO (r_len s8 0 9) w9,
qBin bNeq .neq s7 s9 w10] 5)
(.cond s10 (.seq (.region [qMov cF w4] 1)
.ret)
.skip))
(.seq (.seq (.region [qMov (cn 0) w5] 1)
(.block 0 (.loop (.seq (.seq (.region [qMov s5 w11,
qMov s0 w12,
seqO (r_len s12 0 13) w13,
qBin bLss .lss s11 s13 w14] 4)
(.cond s14 .skip
(.exit 0)))
(.seq (.block 1 (.seq (.draw [⟨r_mov s0 0 17,w17,0⟩,
⟨r_mov s5 0 18,w18,0⟩,
⟨r_indexAddr 4 s17 s18 0 19,w19,3⟩,
⟨r_load 4 true s19 0 20,w20,7⟩,
⟨r_mov s1 0 21,w21,0⟩,
⟨r_mov s5 0 22,w22,0⟩,
⟨r_indexAddr 4 s21 s22 0 23,w23,48⟩,
⟨r_load 4 true s23 0 24,w24,112⟩,
⟨r_eqA true 4 [(0,1),(1,1),(2,1),(3,1)] s20 s24 0 25,w25,255⟩] 9)
(.cond s25 (.seq (.region [qMov cF w4] 1)
.ret)
.skip)))
(.region [qMov s5 w15,
qBin bAdd .add s15 (cn 1) w16,
qMov s16 w5] 3))))))
(.seq (.region [qMov cT w4] 1)
.ret)))),false⟩
def q16:QFn:=⟨1,[.cell s2 3 true,.cell s3 5 true,.t s4],
(.seq (.region [seqO (r_alloc [(.own [] .full),(.own [] .full),(.own [] .full)] 0 2) w2,
seqO (r_alloc [(.own [] .full),(.d (.sc (.int .i64 0))),(.d (.sc (.int .i64 0))),(.d (.sc (.int .i64 0))),(.d (.sc (.int .i64 0)))] 0 3) w3,
qMov (cn 0) w4] 3)
(.seq (.region [seqO (r_build [(.d (.sc (.int .i64 0))),(.d (.sc (.int .i64 0))),(.d (.sc (.int .i64 0))),(.d (.sc (.int .i64 0)))] [(0,1,(cn 1000)),(1,1,(cn 2048)),(2,1,(cn 4096)),(3,1,(cn 4))] 0 10) w10,
seqO (r_alloc [(.d (.sc (.int .i64 0))),(.d (.sc (.int .i64 0))),(.d (.sc (.int .i64 0))),(.d (.sc (.int .i64 0)))] 0 5) w5,
seqO (r_store 4 s5 s10 0 0) wN] 3)
(.seq (.region [qMov (cn 20) w6] 1)
(.seq (.region [qMov (cK (.own [] .full)) w7] 1)
(.seq (.seq (.region [qMov s0 w11] 1)
(.block 0 (.seq (.region [qBin bEql .eql s11 (cb 1) w15,
qMov s15 w14] 2)
(.cond s14 .skip
(.seq (.region [qBin bEql .eql s11 (cb 2) w17,
qMov s17 w16] 2)
(.cond s16 (.region [seqO (r_buildSlice 1 2 [(.sc (.int .i64 0))] [(0,(cn 6)),(1,(cn 29))] 0 18) w18,
qMov s18 w7] 2)
(.seq (.region [qBin bEql .eql s11 (cb 3) w20,
qMov s20 w19] 2)
(.cond s19 (.region [seqO (r_buildSlice 1 2 [(.sc (.int .i64 0))] [(0,(cn 6)),(1,(cn 31))] 0 21) w21,
qMov s21 w7] 2)
(.seq (.region [qBin bEql .eql s11 (cb 4) w23,
qMov s23 w22] 2)
(.cond s22 (.seq (.region [seqO (r_buildSlice 1 2 [(.sc (.int .i64 0))] [(0,(cn 992)),(1,(cn 24))] 0 24) w24,
qMov s24 w7] 2)
(.region [qMov (cn 200) w6,
qFad 1 s5 w25,
seqO (r_store 1 s25 (cn 600) 0 0) wN] 3))
(.seq (.region [qBin bEql .eql s11 (cb 5) w27,
qMov s27 w26] 2)
(.cond s26 (.region [qFad 2 s5 w28,
seqO (r_store 1 s28 (cn 40) 0 0) wN] 2)
(.seq (.region [qBin bEql .eql s11 (cb 6) w30,
qMov s30 w29] 2)
(.cond s29 (.seq (.region [seqO (r_buildSlice 1 3 [(.sc (.int .i64 0))] [(0,(cn 27)),(1,(cn 27)),(2,(cn 27))] 0 31) w31,
qMov s31 w7] 2)
(.region [qFad 3 s5 w32,
seqO (r_store 1 s32 (cn 2) 0 0) wN] 2))
(.seq (.region [qBin bEql .eql s11 (cb 7) w34,
qMov s34 w33] 2)
(.cond s33 (.region [qFad 0 s5 w35,
seqO (r_store 1 s35 (cn 5) 0 0) wN] 2)
(.seq (.region [qBin bEql .eql s11 (cb 8) w37,
qMov s37 w36] 2)
(.cond s36 (.region [qMov (cn 3) w6] 1)
(.seq (.region [seqO (r_build [(.own [] .full),(.own [] .full),(.own [] .full)] [] 0 12) w12,
seqO (r_build [(.own [] .full),(.d (.sc (.int .i64 0))),(.d (.sc (.int .i64 0))),(.d (.sc (.int .i64 0))),(.d (.sc (.int .i64 0)))] [] 0 13) w13,
seqO (r_store 3 s2 s12 0 0) wN,
seqO (r_store 5 s3 s13 0 0) wN,
qMov (cn 2) w4] 5)
.ret)))))))))))))))))))
(.seq (.region [qMov s7 w39,
seqO (r_call 13 [s39] 0 40) w40,
qMov s40 w38,
seqO (r_extract s38 0 0 41) w41,
seqO (r_extract s38 1 0 42) w42,
seqO (r_alloc [(.own [] .full),(.own [] .full),(.own [] .full)] 0 8) w8,
seqO (r_store 3 s8 s41 0 0) wN,
qMov s42 w9] 8)
(.seq (.seq (.region [qMov s9 w43,
qBin bNeq .neq s43 (cn 0) w44] 2)
(.cond s44 (.seq (.region [seqO (r_build [(.own [] .full),(.own [] .full),(.own [] .full)] [] 0 45) w45,
seqO (r_build [(.own [] .full),(.d (.sc (.int .i64 0))),(.d (.sc (.int .i64 0))),(.d (.sc (.int .i64 0))),(.d (.sc (.int .i64 0)))] [] 0 46) w46,
qMov s9 w47,
seqO (r_store 3 s2 s45 0 0) wN,
seqO (r_store 5 s3 s46 0 0) wN,
qMov s47 w4] 6)
.ret)
.skip))
(.seq (.draw [⟨r_load 3 true s8 0 48,w48,0⟩,
⟨r_mov s6 0 49,w49,0⟩,
⟨r_makeSlice 1 8 [(.sc (.int .i64 0))] s49 s49 0 50,w50,2⟩,
⟨r_load 4 true s5 0 51,w51,0⟩,
⟨r_build [(.own [] .full),(.d (.sc (.int .i64 0))),(.d (.sc (.int .i64 0))),(.d (.sc (.int .i64 0))),(.d (.sc (.int .i64 0)))] [(0,1,s50),(1,4,s51)] 0 52,w52,14⟩,
⟨r_store 3 s2 s48 0 0,wN,1⟩,
⟨r_store 5 s3 s52 0 0,wN,63⟩,
⟨r_mov (cn 0) 0 4,w4,127⟩] 8)
.ret)))))))),false⟩
def q18:QFn:=⟨2,[.t s4],
(.seq (.region [seqO (r_box s0 0 2) w2,
seqO (r_box s1 0 3) w3,
qMov cF w4] 3)
(.seq (.region [qFad 1 s2 w5,
seqO (r_load 4 true s5 0 6) w6,
qFad 1 s3 w7,
seqO (r_load 4 true s7 0 8) w8,
seqO (r_eqA false 4 [(0,1),(1,1),(2,1),(3,1)] s6 s8 0 9) w9,
qMov s9 w10,
gdO s10 true w11 (qFad 0 s2 w11),
gdO s10 true w12 (qLd s11 w12),
gdO s10 true w13 (qFad 0 s3 w13),
gdO s10 true w14 (qLd s13 w14),
gdO s10 true w15 (seqO (r_callF 35 [s12,s14] 0 15) w15),
qPick s10 s15 cF w16,
qMov s16 w4] 13)
.ret)),false⟩
def q19:QFn:=⟨3,[.cell s6 4 true],
(.seq (.region [seqO (r_alloc [(.d (.sc (.int .u8 0))),(.d (.sc (.int .i64 0))),(.d (.sc (.int .i64 0))),(.d (.sc (.int .i64 0)))] 0 6) w6] 1)
(.seq (.region [qMov s0 w7,
qMov s1 w8,
qMov s2 w9,
seqO (r_build [(.d (.sc (.int .u8 0))),(.d (.sc (.int .i64 0))),(.d (.sc (.int .i64 0))),(.d (.sc (.int .i64 0)))] [(0,1,s7),(1,1,s8),(2,1,s9)] 0 10) w10,
seqO (r_store 4 s6 s10 0 0) wN] 5)
.ret)),false⟩
def q20:QFn:=⟨3,[.t s6],
(.seq (.region [seqO (r_box s0 0 3) w3,
qMov cF w6] 2)
(.seq (.region [qMov s1 w7,
qFad 2 s3 w8,
qLd s8 w9,
seqO (r_len s9 0 10) w10,
qBin bLss .lss s7 s10 w11,
qMov s11 w12,
gdO s12 true w13 (qFad 2 s3 w13),
gdO s12 true w14 (qLd s13 w14),
gdO s12 true w15 (qMov s1 w15),
gdO s12 true w16 (seqO (r_indexAddr 7 s14 s15 0 16) w16),
gdO s12 true w17 (qFad 4 s16 w17),
gdO s12 true w18 (qLd s17 w18),
gdO s12 true w19 (qMov s2 w19),
gdO s12 true w20 (seqO (r_callF 14 [s18,s19] 0 20) w20),
qPick s12 s20 cF w21,
qMov s21 w6] 16)
.ret)),false⟩
def q21:QFn:=⟨1,[.t s2],
(.seq (.region [seqO (r_box s0 0 1) w1,
qMov (cn 0) w2] 2)
(.seq (.region [seqO (r_load 3 true s1 0 7) w7,
seqO (r_callF 36 [s7] 0 8) w8,
qMov s8 w6,
seqO (r_extract s6 0 0 9) w9,
seqO (r_extract s6 1 0 10) w10,
seqO (r_extract s6 2 0 11) w11,
qMov s9 w3,
qMov s10 w4,
qMov s11 w5] 9)
(.seq (.region [qMov s5 w12,
qMov s12 w2] 2)
.ret))),false⟩
def q22:QFn:=⟨1,[.t s2],
(.seq (.region [seqO (r_box s0 0 1) w1,
qMov (cn 0) w2] 2)
(.seq (.region [qFad 1 s1 w5,
seqO (r_load 4 true s5 0 6) w6,
seqO (r_alloc [(.d (.sc (.int .i64 0))),(.d (.sc (.int .i64 0))),(.d (.sc (.int .i64 0))),(.d (.sc (.int .i64 0)))] 0 3) w3,
seqO (r_store 4 s3 s6 0 0) wN] 4)
(.seq (.region [qFad 0 s3 w7,
qLd s7 w8,
seqO (r_callF 37 [s8,(cn 1),(cn 5000)] 0 9) w9,
qMov s9 w10,
gdO s10 true w11 (qFad 1 s3 w11),
gdO s10 true w12 (qLd s11 w12),
gdO s10 true w13 (seqO (r_callF 37 [s12,(cn 0),(cn 4096)] 0 13) w13),
qPick s10 s13 cF w14,
qMov s14 w15,
gdO s15 true w16 (qFad 2 s3 w16),
gdO s15 true w17 (qLd s16 w17),
gdO s15 true w18 (seqO (r_callF 37 [s17,(cn 0),(cn 16384)] 0 18) w18),
qPick s15 s18 cF w19,
qMov s19 w20,
gdO s20 true w21 (qFad 3 s3 w21),
gdO s20 true w22 (qLd s21 w22),
gdO s20 true w23 (seqO (r_callF 37 [s22,(cn 1),(cn 16)] 0 23) w23),
qPick s20 s23 cF w24,
qMov s24 w25,
gdO s25 true w26 (qFad 0 s1 w26),
gdO s25 true w27 (qLd s26 w27),
gdO s25 true w28 (seqO (r_len s27 0 28) w28),
gdO s25 true w29 (qBin bLeq .leq s28 (cn 2000) w29),
qPick s25 s29 cF w30,
qMov s30 w4] 25)
(.seq (.seq (.region [qMov s4 w31,
seqO (r_un .not s31 0 32) w32,
qMov s32 w33,
gdO s33 false w34 (qFad 0 s1 w34),
gdO s33 false w35 (qLd s34 w35),
gdO s33 false w36 (seqO (r_callF 38 [s35,(cK (.clo 39 []))] 0 36) w36),
qPick s33 cT s36 w37] 7)
(.cond s37 (.seq (.region [qMov (cn 8) w2] 1)
.ret)
.skip))
(.seq (.region [qMov (cn 0) w2] 1)
.ret))))),false⟩
def q25:QFn:=⟨5,[.cell s10 7 true],
(.seq (.region [seqO (r_alloc [(.d (.sc (.string ⟨#[]⟩))),(.d (.sc (.int .i64 0))),(.d (.sc (.int .i64 0))),(.own [] .full),(.own [] .full),(.own [] .full),(.own [] .full)] 0 10) w10] 1)
(.seq (.region [qMov s0 w16,
qMov s2 w17,
qMov s3 w18,
qMov s4 w19,
seqO (r_build [(.d (.sc (.int .i64 0))),(.d (.sc (.int .u64 0)))] [] 0 20) w20,
seqO (r_buildSlice 2 1 [(.sc (.int .i64 0)),(.sc (.int .u64 0))] [(0,s20)] 0 21) w21,
seqO (r_build [(.d (.sc (.int .i64 0))),(.d (.sc (.int .u64 0)))] [] 0 22) w22,
seqO (r_buildSlice 2 1 [(.sc (.int .i64 0)),(.sc (.int .u64 0))] [(0,s22)] 0 23) w23,
seqO (r_build [(.d (.sc (.string ⟨#[]⟩))),(.d (.sc (.int .i64 0))),(.d (.sc (.int .i64 0))),(.own [] .full),(.own [] .full),(.own [] .full),(.own [] .full)] [(0,1,s16),(1,1,s17),(2,1,s18),(4,1,s19),(5,1,s21),(6,1,s23)] 0 24) w24,
seqO (r_alloc [(.d (.sc (.string ⟨#[]⟩))),(.d (.sc (.int .i64 0))),(.d (.sc (.int .i64 0))),(.own [] .full),(.own [] .full),(.own [] .full),(.own [] .full)] 0 11) w11,
seqO (r_store 7 s11 s24 0 0) wN] 11)
(.seq (.region [qMov s1 w25,
seqO (r_call 43 [s25] 0 26) w26,
qMov s26 w12] 3)
(.seq (.seq (.region [qMov (cn 0) w13] 1)
(.block 0 (.loop (.seq (.seq (.region [qMov s13 w27,
qBin bAdd .add s27 (cn 1) w28,
qMov s12 w29,
seqO (r_len s29 0 30) w30,
qBin bLss .lss s28 s30 w31] 5)
(.cond s31 .skip
(.exit 0)))
(.seq (.block 1 (.seq (.region [qMov s12 w35,
qMov s13 w36,
qBin bAdd .add s36 (cn 1) w37,
seqO (r_indexAddr 1 s35 s37 0 38) w38,
qLd s38 w39,
seqO (r_call 44 [s39] 0 40) w40,
qMov s40 w34,
seqO (r_extract s34 0 0 41) w41,
seqO (r_extract s34 1 0 42) w42,
qMov s41 w14,
qMov s42 w15] 11)
(.draw [⟨r_fieldAddr 3 s11 0 43,w43,0⟩,
⟨r_load 1 false s43 0 44,w44,1⟩,
⟨r_mov s12 0 45,w45,0⟩,
⟨r_mov s13 0 46,w46,0⟩,
⟨r_indexAddr 1 s45 s46 0 47,w47,12⟩,
⟨r_load 1 false s47 0 48,w48,28⟩,
⟨r_mov s14 0 49,w49,0⟩,
⟨r_build [(.d (.sc (.string ⟨#[]⟩))),(.d (.sc (.int .i64 0)))] [(0,1,s48),(1,1,s49)] 0 50,w50,124⟩,
⟨r_buildSlice 2 1 [(.sc (.string ⟨#[]⟩)),(.sc (.int .i64 0))] [(0,s50)] 0 51,w51,252⟩,
⟨r_append 2 24 s44 s51 0 52,w52,511⟩,
⟨r_fieldAddr 3 s11 0 53,w53,1023⟩,
⟨r_store 1 s53 s52 0 0,wN,2047⟩] 12)))
(.region [qMov s13 w32,
qBin bAdd .add s32 (cn 2) w33,
qMov s33 w13] 3))))))
(.seq (.region [seqO (r_load 7 true s11 0 54) w54,
seqO (r_store 7 s10 s54 0 0) wN] 2)
.ret))))),false⟩
def q26:QFn:=⟨2,[.t s4],
(.seq (.region [seqO (r_mov (cK (.own [] .full)) 262148 4) w4] 1)
(.seq (.region [seqO (r_mov (cK (.own [] .full)) 262148 5) w5] 1)
(.block 4294967297 (.loop (.block 4294967296 (.seq (.seq (.seq (.region [qMov s0 w16,
seqO (r_call 45 [s16,(cK (.d (.sc (.string ⟨#[59,32]⟩))))] 0 17) w17,
seqO (r_len s17 0 18) w18,
qMov (cn 0) w19] 4)
(.block 0 (.loop (.seq (.region [qBin bLss .lss s19 s18 w20] 1)
(.seq (.cond s20 .skip
(.exit 0))
(.seq (.block 1 (.seq (.region [seqO (r_indexAddr 1 s17 s19 0 21) w21,
qLd s21 w22,
qMov s22 w7] 3)
(.seq (.region [seqO (r_alloc [(.d (.sc (.int .u8 0))),(.d (.sc (.int .i64 0))),(.d (.sc (.int .i64 0))),(.d (.sc (.int .i64 0)))] 0 8) w8] 1)
(.seq (.region [qFad 1 s8 w23,
qFad 2 s8 w24,
qFad 3 s8 w25,
seqO (r_build [(.d (.sc (.pointer none))),(.d (.sc (.pointer none))),(.d (.sc (.pointer none)))] [(0,1,s23),(1,1,s24),(2,1,s25)] 0 26) w26,
seqO (r_alloc [(.d (.sc (.pointer none))),(.d (.sc (.pointer none))),(.d (.sc (.pointer none)))] 0 9) w9,
seqO (r_store 3 s9 s26 0 0) wN] 6)
(.seq (.seq (.region [qMov s7 w27,
seqO (r_call 43 [s27] 0 28) w28,
seqO (r_len s28 0 29) w29,
qMov (cn 0) w30] 4)
(.block 2 (.loop (.seq (.region [qBin bLss .lss s30 s29 w31] 1)
(.seq (.cond s31 .skip
(.exit 2))
(.seq (.block 3 (.seq (.region [qMov s30 w32,
seqO (r_indexAddr 1 s28 s30 0 33) w33,
qLd s33 w34,
qMov s32 w10,
qMov s34 w11] 5)
(.seq (.seq (.region [qMov s10 w35,
qBin bEql .eql s35 (cn 0) w36] 2)
(.cond s36 (.seq (.region [qMov s11 w38,
seqO (r_callF 46 [s38] 0 39) w39,
qMov s39 w37,
seqO (r_extract s37 0 0 40) w40,
seqO (r_extract s37 1 0 41) w41,
qMov s40 w12,
qMov s41 w13] 7)
(.seq (.seq (.region [qMov s13 w42,
qBin bNeq .neq s42 (cn 0) w43] 2)
(.cond s43 (.exit 1)
.skip))
(.seq (.region [qMov s12 w44,
qFad 0 s8 w45,
seqO (r_store 1 s45 s44 0 0) wN] 3)
(.exit 3))))
.skip))
(.seq (.region [qMov s11 w47,
seqO (r_call 44 [s47] 0 48) w48,
qMov s48 w46,
seqO (r_extract s46 0 0 49) w49,
seqO (r_extract s46 1 0 50) w50,
qMov s49 w14,
qMov s50 w15] 7)
(.seq (.seq (.region [qMov s15 w51,
seqO (r_isErr true s51 0 52) w52] 2)
(.cond s52 (.region [qMov s1 w53,
qMov s5 w54,
seqO (r_len s54 0 55) w55,
qBin bAdd .add s53 s55 w56,
qBin bAdd .add s56 (cn 2) w57,
qMov s57 w14] 6)
.skip))
(.region [qMov s10 w58,
qBin bSub .sub s58 (cn 1) w59,
seqO (r_indexArr 3 1 s9 s59 0 60) w60,
qLd s60 w61,
qMov s14 w62,
seqO (r_nilCheck s61 0 63) w63,
seqO (r_store 1 s63 s62 0 0) wN] 7))))))
(.region [qBin bAdd .add s30 (cn 1) w64,
qMov s64 w30] 2)))))))
(.region [qMov s5 w65,
seqO (r_load 4 true s8 0 66) w66,
seqO (r_buildSlice 4 1 [(.sc (.int .u8 0)),(.sc (.int .i64 0)),(.sc (.int .i64 0)),(.sc (.int .i64 0))] [(0,s66)] 0 67) w67,
seqO (r_append 4 32 s65 s67 1 68) w68,
seqO (r_mov s68 262148 5) w5] 5))))))
(.region [qBin bAdd .add s19 (cn 1) w69,
qMov s69 w19] 2)))))))
(.seq (.region [qMov s5 w70,
seqO (r_mov s70 262148 4) w4] 2)
.ret))
(.exit 4294967297))))))),false⟩
def q27:QFn:=⟨1,[.cell s2 3 true,.t s3],
(.seq (.region [seqO (r_box s0 0 1) w1,
seqO (r_alloc [(.own [] .full),(.own [] .full),(.own [] .full)] 0 2) w2,
qMov (cn 0) w3] 3)
(.seq (.region [qFad 2 s1 w8,
qLd s8 w9,
seqO (r_len s9 0 10) w10,
seqO (r_makeSlice 7 128 [(.sc (.string ⟨#[]⟩)),(.sc (.int .i64 0)),(.sc (.int .i64 0)),(.sl []),(.sl []),(.sl []),(.sl [])] s10 s10 1 11) w11,
qMov s11 w4] 5)
(.seq (.seq (.region [qFad 2 s1 w12,
qLd s12 w13,
seqO (r_len s13 0 14) w14,
qMov (cn 0) w15] 4)
(.block 0 (.loop (.seq (.region [qBin bLss .lss s15 s14 w16] 1)
(.seq (.cond s16 .skip
(.exit 0))
(.seq (.block 1 (.seq (.region [qMov s15 w17,
qMov s17 w5] 2)
(.seq (.region [seqO (r_load 3 true s1 0 19) w19,
qMov s5 w20,
seqO (r_call 47 [s19,s20] 0 21) w21,
qMov s21 w18,
seqO (r_extract s18 0 0 22) w22,
seqO (r_extract s18 1 0 23) w23,
seqO (r_alloc [(.d (.sc (.string ⟨#[]⟩))),(.d (.sc (.int .i64 0))),(.d (.sc (.int .i64 0))),(.own [] .full),(.own [] .full),(.own [] .full),(.own [] .full)] 0 6) w6,
seqO (r_store 7 s6 s22 0 0) wN,
qMov s23 w7] 9)
(.seq (.seq (.region [qMov s7 w24,
qBin bNeq .neq s24 (cn 0) w25] 2)
(.cond s25 (.seq (.region [seqO (r_build [(.own [] .full),(.own [] .full),(.own [] .full)] [] 0 26) w26,
qMov s7 w27,
seqO (r_store 3 s2 s26 0 0) wN,
qMov s27 w3] 4)
.ret)
.skip))
(.region [qMov s4 w28,
qMov s5 w29,
seqO (r_load 7 true s6 0 30) w30,
seqO (r_indexAddr 7 s28 s29 0 31) w31,
seqO (r_store 7 s31 s30 0 0) wN] 5)))))
(.region [qBin bAdd .add s15 (cn 1) w32,
qMov s32 w15] 2)))))))
(.seq (.region [qMov s4 w33,
qFad 2 s1 w34,
seqO (r_store 1 s34 s33 0 0) wN] 3)
(.seq (.region [seqO (r_load 3 true s1 0 35) w35,
seqO (r_store 3 s2 s35 0 0) wN,
qMov (cn 0) w3] 3)
.ret))))),false⟩
def q29:QFn:=⟨2,[.t s4],
(.seq (.region [qMov cF w4] 1)
(.seq (.seq (.region [qMov s0 w6,
seqO (r_len s6 0 7) w7,
qMov s1 w8,
seqO (r_len s8 0 9) w9,
qBin bNeq .neq s7 s9 w10] 5)
(.cond s10 (.seq (.region [qMov cF w4] 1)
.ret)
.skip))
(.seq (.seq (.region [qMov (cn 0) w5] 1)
(.block 0 (.loop (.seq (.seq (.region [qMov s5 w11,
qMov s0 w12,
seqO (r_len s12 0 13) w13,
qBin bLss .lss s11 s13 w14] 4)
(.cond s14 .skip
(.exit 0)))
(.seq (.block 1 (.seq (.draw [⟨r_mov s0 0 17,w17,0⟩,
⟨r_mov s5 0 18,w18,0⟩,
⟨r_indexAddr 4 s17 s18 0 19,w19,3⟩,
⟨r_fieldAddr 0 s19 0 20,w20,7⟩,
⟨r_load 1 false s20 0 21,w21,15⟩,
⟨r_mov s1 0 22,w22,0⟩,
⟨r_mov s5 0 23,w23,0⟩,
⟨r_indexAddr 4 s22 s23 0 24,w24,96⟩,
⟨r_fieldAddr 0 s24 0 25,w25,224⟩,
⟨r_load 1 false s25 0 26,w26,480⟩,
⟨r_bin .neq s21 s26 0 27,w27,1023⟩,
⟨r_mov s27 0 28,w28,2047⟩,
⟨gdR s28 false (r_mov s0 0 29),w29,4095⟩,
⟨gdR s28 false (r_mov s5 0 30),w30,4095⟩,
⟨gdR s28 false (r_indexAddr 4 s29 s30 0 31),w31,16383⟩,
⟨gdR s28 false (r_fieldAddr 1 s31 0 32),w32,32767⟩,
⟨gdR s28 false (r_load 1 false s32 0 33),w33,65535⟩,
⟨gdR s28 false (r_mov s1 0 34),w34,4095⟩,
⟨gdR s28 false (r_mov s5 0 35),w35,4095⟩,
⟨gdR s28 false (r_indexAddr 4 s34 s35 0 36),w36,397311⟩,
⟨gdR s28 false (r_fieldAddr 1 s36 0 37),w37,921599⟩,
⟨gdR s28 false (r_load 1 false s37 0 38),w38,1970175⟩,
⟨gdR s28 false (r_bin .neq s33 s38 0 39),w39,4194303⟩,
⟨r_pick s28 cT s39 0 40,w40,8388607⟩,
⟨r_mov s40 0 41,w41,16777215⟩,
⟨gdR s41 false (r_mov s0 0 42),w42,33554431⟩,
⟨gdR s41 false (r_mov s5 0 43),w43,33554431⟩,
⟨gdR s41 false (r_indexAddr 4 s42 s43 0 44),w44,134217727⟩,
⟨gdR s41 false (r_fieldAddr 2 s44 0 45),w45,268435455⟩,
⟨gdR s41 false (r_load 1 false s45 0 46),w46,536870911⟩,
⟨gdR s41 false (r_mov s1 0 47),w47,33554431⟩,
⟨gdR s41 false (r_mov s5 0 48),w48,33554431⟩,
⟨gdR s41 false (r_indexAddr 4 s47 s48 0 49),w49,3254779903⟩,
⟨gdR s41 false (r_fieldAddr 2 s49 0 50),w50,7549747199⟩,
⟨gdR s41 false (r_load 1 false s50 0 51),w51,16139681791⟩,
⟨gdR s41 false (r_bin .neq s46 s51 0 52),w52,34359738367⟩,
⟨r_pick s41 cT s52 0 53,w53,68719476735⟩,
⟨r_mov s53 0 54,w54,137438953471⟩,
⟨gdR s54 false (r_mov s0 0 55),w55,274877906943⟩,
⟨gdR s54 false (r_mov s5 0 56),w56,274877906943⟩,
⟨gdR s54 false (r_indexAddr 4 s55 s56 0 57),w57,1099511627775⟩,
⟨gdR s54 false (r_fieldAddr 3 s57 0 58),w58,2199023255551⟩,
⟨gdR s54 false (r_load 1 false s58 0 59),w59,4398046511103⟩,
⟨gdR s54 false (r_mov s1 0 60),w60,274877906943⟩,
⟨gdR s54 false (r_mov s5 0 61),w61,274877906943⟩,
⟨gdR s54 false (r_indexAddr 4 s60 s61 0 62),w62,26663156973567⟩,
⟨gdR s54 false (r_fieldAddr 3 s62 0 63),w63,61847529062399⟩,
⟨gdR s54 false (r_load 1 false s63 0 64),w64,132216273240063⟩,
⟨gdR s54 false (r_callF 53 [s59,s64] 0 65),w65,281474976710655⟩,
⟨gdR s54 false (r_un .not s65 0 66),w66,562949953421311⟩,
⟨r_pick s54 cT s66 0 67,w67,1125899906842623⟩] 51)
(.cond s67 (.seq (.region [qMov cF w4] 1)
.ret)
.skip)))
(.region [qMov s5 w15,
qBin bAdd .add s15 (cn 1) w16,
qMov s16 w5] 3))))))
(.seq (.region [qMov cT w4] 1)
.ret)))),false⟩
def q30:QFn:=⟨2,[.t s4],
(.seq (.region [seqO (r_box s0 0 2) w2,
seqO (r_box s1 0 3) w3,
qMov cF w4] 3)
(.seq (.region [qFad 0 s2 w5,
qLd s5 w6,
qFad 0 s3 w7,
qLd s7 w8,
qBin bEql .eql s6 s8 w9,
qMov s9 w10,
gdO s10 true w11 (qFad 1 s2 w11),
gdO s10 true w12 (qLd s11 w12),
gdO s10 true w13 (qFad 1 s3 w13),
gdO s10 true w14 (qLd s13 w14),
gdO s10 true w15 (qBin bEql .eql s12 s14 w15),
qPick s10 s15 cF w16,
qMov s16 w17,
gdO s17 true w18 (qFad 2 s2 w18),
gdO s17 true w19 (qLd s18 w19),
gdO s17 true w20 (qFad 2 s3 w20),
gdO s17 true w21 (qLd s20 w21),
gdO s17 true w22 (qBin bEql .eql s19 s21 w22),
qPick s17 s22 cF w23,
qMov s23 w24,
gdO s24 true w25 (qFad 3 s2 w25),
gdO s24 true w26 (qLd s25 w26),
gdO s24 true w27 (qFad 3 s3 w27),
gdO s24 true w28 (qLd s27 w28),
gdO s24 true w29 (seqO (r_callF 53 [s26,s28] 0 29) w29),
qPick s24 s29 cF w30,
qMov s30 w31,
gdO s31 true w32 (qFad 4 s2 w32),
gdO s31 true w33 (qLd s32 w33),
gdO s31 true w34 (qFad 4 s3 w34),
gdO s31 true w35 (qLd s34 w35),
gdO s31 true w36 (seqO (r_callF 14 [s33,s35] 0 36) w36),
qPick s31 s36 cF w37,
qMov s37 w38,
gdO s38 true w39 (qFad 5 s2 w39),
gdO s38 true w40 (qLd s39 w40),
gdO s38 true w41 (qFad 5 s3 w41),
gdO s38 true w42 (qLd s41 w42),
gdO s38 true w43 (seqO (r_callF 31 [s40,s42] 0 43) w43),
qPick s38 s43 cF w44,
qMov s44 w45,
gdO s45 true w46 (qFad 6 s2 w46),
gdO s45 true w47 (qLd s46 w47),
gdO s45 true w48 (qFad 6 s3 w48),
gdO s45 true w49 (qLd s48 w49),
gdO s45 true w50 (seqO (r_callF 31 [s47,s49] 0 50) w50),
qPick s45 s50 cF w51,
qMov s51 w4] 48)
.ret)),false⟩
def q31:QFn:=⟨2,[.t s4],
(.seq (.region [qMov cF w4] 1)
(.seq (.seq (.region [qMov s0 w6,
seqO (r_len s6 0 7) w7,
qMov s1 w8,
seqO (r_len s8 0 9) w9,
qBin bNeq .neq s7 s9 w10] 5)
(.cond s10 (.seq (.region [qMov cF w4] 1)
.ret)
.skip))
(.seq (.seq (.region [qMov (cn 0) w5] 1)
(.block 0 (.loop (.seq (.seq (.region [qMov s5 w11,
qMov s0 w12,
seqO (r_len s12 0 13) w13,
qBin bLss .lss s11 s13 w14] 4)
(.cond s14 .skip
(.exit 0)))
(.seq (.block 1 (.seq (.draw [⟨r_mov s0 0 17,w17,0⟩,
⟨r_mov s5 0 18,w18,0⟩,
⟨r_indexAddr 2 s17 s18 0 19,w19,3⟩,
⟨r_load 2 true s19 0 20,w20,7⟩,
⟨r_mov s1 0 21,w21,0⟩,
⟨r_mov s5 0 22,w22,0⟩,
⟨r_indexAddr 2 s21 s22 0 23,w23,48⟩,
⟨r_load 2 true s23 0 24,w24,112⟩,
⟨r_eqA true 2 [(0,1),(1,1)] s20 s24 0 25,w25,255⟩] 9)
(.cond s25 (.seq (.region [qMov cF w4] 1)
.ret)
.skip)))
(.region [qMov s5 w15,
qBin bAdd .add s15 (cn 1) w16,
qMov s16 w5] 3))))))
(.seq (.region [qMov cT w4] 1)
.ret)))),false⟩
def q32:QFn:=⟨1,[.t s2],
(.seq (.region [qMov (cK (.d (.sc (.string ⟨#[]⟩)))) w2] 1)
(.seq (.region [qMov s0 w5,
seqO (r_maxi s5 (cn 0) 0 6) w6,
qMov s6 w0] 3)
(.seq (.region [qMov s0 w7,
qBin (bGen .quo) .quo s7 (cn 32) w8,
qBin (bGen .rem) .rem s8 (cn 32) w9,
seqO (r_alloc [(.d (.sc (.int .i64 0)))] 0 3) w3,
seqO (r_store 1 s3 s9 0 0) wN] 5)
(.seq (.region [seqO (r_makeFunc 54 [s3] 0 10) w10,
qMov s10 w4] 2)
(.seq (.seq (.region [qMov s0 w11,
qBin (bGen .rem) .rem s11 (cn 32) w12] 2)
(.block 0 (.seq (.region [qBin bEql .eql s12 (cn 0) w14,
qMov s14 w13] 2)
(.cond s13 (.seq (.region [qLd s3 w15,
seqO (r_callF 24 [s15] 0 16) w16,
qBin bAdd .add (cK (.d (.sc (.string ⟨#[105,110,116,32,48,32]⟩)))) s16 w17,
qMov s17 w2] 4)
.ret)
(.seq (.region [qBin bEql .eql s12 (cn 25) w19,
qMov s19 w18] 2)
(.cond s18 (.seq (.region [qMov s4 w20,
seqO (r_buildSlice 1 3 [(.sc (.string ⟨#[]⟩))] [(0,(cK (.d (.sc (.string ⟨#[50]⟩))))),(1,(cK (.d (.sc (.string ⟨#[52]⟩))))),(2,(cK (.d (.sc (.string ⟨#[55]⟩)))))] 0 21) w21,
seqO (r_callv s20 [s21] 0 22) w22,
qBin bAdd .add (cK (.d (.sc (.string ⟨#[97,114,103,32,48,59,32,100,101,102,101,114,32]⟩)))) s22 w23,
qMov s23 w2] 5)
.ret)
(.seq (.region [qBin bEql .eql s12 (cn 26) w25,
qMov s25 w24] 2)
(.cond s24 (.seq (.region [qMov s4 w26,
seqO (r_buildSlice 1 2 [(.sc (.string ⟨#[]⟩))] [(0,(cK (.d (.sc (.string ⟨#[53]⟩))))),(1,(cK (.d (.sc (.string ⟨#[54]⟩)))))] 0 27) w27,
seqO (r_callv s26 [s27] 0 28) w28,
qBin bAdd .add (cK (.d (.sc (.string ⟨#[100,101,102,101,114,32]⟩)))) s28 w29,
qMov s29 w2] 5)
.ret)
(.seq (.region [qBin bEql .eql s12 (cn 28) w31,
qMov s31 w30] 2)
(.cond s30 (.seq (.region [qMov s4 w32,
seqO (r_buildSlice 1 4 [(.sc (.string ⟨#[]⟩))] [(0,(cK (.d (.sc (.string ⟨#[119,97,107,101,32,49,32,55]⟩))))),(1,(cK (.d (.sc (.string ⟨#[99,111,112,121,32,55,32,48]⟩))))),(2,(cK (.d (.sc (.string ⟨#[116,101,120,116,32,50,32,49]⟩))))),(3,(cK (.d (.sc (.string ⟨#[114,101,99,111,118,101,114,32,49,32,48]⟩)))))] 0 33) w33,
seqO (r_callv s32 [s33] 0 34) w34,
qMov s34 w2] 4)
.ret)
.skip))))))))))
(.seq (.region [seqO (r_build [(.d (.sc (.string ⟨#[]⟩))),(.d (.sc (.string ⟨#[]⟩))),(.d (.sc (.string ⟨#[]⟩))),(.d (.sc (.string ⟨#[]⟩))),(.d (.sc (.string ⟨#[]⟩))),(.d (.sc (.string ⟨#[]⟩))),(.d (.sc (.string ⟨#[]⟩))),(.d (.sc (.string ⟨#[]⟩))),(.d (.sc (.string ⟨#[]⟩))),(.d (.sc (.string ⟨#[]⟩))),(.d (.sc (.string ⟨#[]⟩))),(.d (.sc (.string ⟨#[]⟩))),(.d (.sc (.string ⟨#[]⟩))),(.d (.sc (.string ⟨#[]⟩))),(.d (.sc (.string ⟨#[]⟩))),(.d (.sc (.string ⟨#[]⟩))),(.d (.sc (.string ⟨#[]⟩))),(.d (.sc (.string ⟨#[]⟩))),(.d (.sc (.string ⟨#[]⟩))),(.d (.sc (.string ⟨#[]⟩))),(.d (.sc (.string ⟨#[]⟩))),(.d (.sc (.string ⟨#[]⟩))),(.d (.sc (.string ⟨#[]⟩))),(.d (.sc (.string ⟨#[]⟩))),(.d (.sc (.string ⟨#[]⟩))),(.d (.sc (.string ⟨#[]⟩))),(.d (.sc (.string ⟨#[]⟩))),(.d (.sc (.string ⟨#[]⟩))),(.d (.sc (.string ⟨#[]⟩))),(.d (.sc (.string ⟨#[]⟩))),(.d (.sc (.string ⟨#[]⟩))),(.d (.sc (.string ⟨#[]⟩)))] [(1,1,(cK (.d (.sc (.string ⟨#[97,100,100,32,48,32,48,32,55]⟩))))),(2,1,(cK (.d (.sc (.string ⟨#[115,117,98,32,55,32,55,32,48]⟩))))),(3,1,(cK (.d (.sc (.string ⟨#[109,117,108,32,48,32,48,32,55]⟩))))),(4,1,(cK (.d (.sc (.string ⟨#[100,105,118,32,48,32,48,32,55]⟩))))),(5,1,(cK (.d (.sc (.string ⟨#[108,101,115,115,32,49,32,48,32,55]⟩))))),(6,1,(cK (.d (.sc (.string ⟨#[110,111,116,32,49,32,49]⟩))))),(7,1,(cK (.d (.sc (.string ⟨#[115,97,109,101,32,49,32,48,32,55]⟩))))),(8,1,(cK (.d (.sc (.string ⟨#[115,116,111,114,101,32,51,32,48]⟩))))),(9,1,(cK (.d (.sc (.string ⟨#[108,111,97,100,32,48,32,51]⟩))))),(10,1,(cK (.d (.sc (.string ⟨#[110,101,119,32,51]⟩))))),(11,1,(cK (.d (.sc (.string ⟨#[122,101,114,111,32,51]⟩))))),(12,1,(cK (.d (.sc (.string ⟨#[112,117,116,32,52,32,48,32,48]⟩))))),(13,1,(cK (.d (.sc (.string ⟨#[102,105,101,108,100,32,55,32,52,32,48]⟩))))),(14,1,(cK (.d (.sc (.string ⟨#[112,117,116,32,52,32,50,32,51]⟩))))),(15,1,(cK (.d (.sc (.string ⟨#[110,101,119,32,56]⟩))))),(16,1,(cK (.d (.sc (.string ⟨#[115,116,111,114,101,32,56,32,52]⟩))))),(17,1,(cK (.d (.sc (.string ⟨#[108,111,97,100,32,52,32,56]⟩))))),(18,1,(cK (.d (.sc (.string ⟨#[109,97,107,101,32,54,32,55]⟩))))),(19,1,(cK (.d (.sc (.string ⟨#[115,101,116,32,54,32,55,32,48]⟩))))),(20,1,(cK (.d (.sc (.string ⟨#[97,116,32,48,32,54,32,55]⟩))))),(21,1,(cK (.d (.sc (.string ⟨#[115,101,116,32,53,32,55,32,48]⟩))))),(22,1,(cK (.d (.sc (.string ⟨#[97,116,32,48,32,53,32,55]⟩))))),(23,1,(cK (.d (.sc (.string ⟨#[108,101,110,32,55,32,54]⟩))))),(24,1,(cK (.d (.sc (.string ⟨#[97,114,103,32,48,59,32,99,97,108,108,32,48,32,49]⟩))))),(27,1,(cK (.d (.sc (.string ⟨#[97,114,103,32,55,59,32,103,111,32,51]⟩))))),(29,1,(cK (.d (.sc (.string ⟨#[98,114,97,110,99,104,32,49,32,64,59,32,112,97,110,105,99,32,48]⟩))))),(30,1,(cK (.d (.sc (.string ⟨#[98,114,97,110,99,104,32,49,32,64,59,32,101,120,105,116]⟩))))),(31,1,(cK (.d (.sc (.string ⟨#[98,114,97,110,99,104,32,49,32,64,59,32,98,108,111,99,107,32,55]⟩)))))] 0 35) w35,
qMov s0 w36,
qBin (bGen .rem) .rem s36 (cn 32) w37,
seqO (r_indexA 32 1 false s35 s37 0 38) w38,
qMov s38 w2] 5)
.ret)))))),false⟩
def q35:QFn:=⟨2,[.t s4],
(.seq (.region [qMov cF w4] 1)
(.seq (.seq (.region [qMov s0 w6,
seqO (r_len s6 0 7) w7,
qMov s1 w8,
seqO (r_len s8 0 9) w9,
qBin bNeq .neq s7 s9 w10] 5)
(.cond s10 (.seq (.region [qMov cF w4] 1)
.ret)
.skip))
(.seq (.seq (.region [qMov (cn 0) w5] 1)
(.block 0 (.loop (.seq (.seq (.region [qMov s5 w11,
qMov s0 w12,
seqO (r_len s12 0 13) w13,
qBin bLss .lss s11 s13 w14] 4)
(.cond s14 .skip
(.exit 0)))
(.seq (.block 1 (.seq (.draw [⟨r_mov s0 0 17,w17,0⟩,
⟨r_mov s5 0 18,w18,0⟩,
⟨r_indexAddr 1 s17 s18 0 19,w19,3⟩,
⟨r_load 1 false s19 0 20,w20,7⟩,
⟨r_mov s1 0 21,w21,0⟩,
⟨r_mov s5 0 22,w22,0⟩,
⟨r_indexAddr 1 s21 s22 0 23,w23,48⟩,
⟨r_load 1 false s23 0 24,w24,112⟩,
⟨r_bin .neq s20 s24 0 25,w25,255⟩] 9)
(.cond s25 (.seq (.region [qMov cF w4] 1)
.ret)
.skip)))
(.region [qMov s5 w15,
qBin bAdd .add s15 (cn 1) w16,
qMov s16 w5] 3))))))
(.seq (.region [qMov cT w4] 1)
.ret)))),false⟩
def q36:QFn:=⟨1,[.t s2,.t s3,.t s4],
(.seq (.region [seqO (r_box s0 0 1) w1,
qMov (cn 0) w2,
qMov (cn 0) w3,
qMov (cn 0) w4] 4)
(.seq (.seq (.region [seqO (r_load 3 true s1 0 9) w9,
seqO (r_callF 57 [s9] 0 10) w10,
qMov s10 w5] 3)
(.seq (.region [qMov s5 w11,
qBin bNeq .neq s11 (cn 0) w12] 2)
(.cond s12 (.seq (.region [qMov s5 w13,
qMov (cn 0) w2,
qMov (cn 0) w3,
qMov s13 w4] 4)
.ret)
.skip)))
(.seq (.seq (.region [qFad 2 s1 w14,
qLd s14 w15,
seqO (r_len s15 0 16) w16,
qMov (cn 0) w17] 4)
(.block 0 (.loop (.seq (.region [qBin bLss .lss s17 s16 w18] 1)
(.seq (.cond s18 .skip
(.exit 0))
(.seq (.block 1 (.seq (.region [qMov s17 w19,
seqO (r_indexAddr 7 s15 s17 0 20) w20,
seqO (r_load 7 true s20 0 21) w21,
seqO (r_alloc [(.d (.sc (.string ⟨#[]⟩))),(.d (.sc (.int .i64 0))),(.d (.sc (.int .i64 0))),(.own [] .full),(.own [] .full),(.own [] .full),(.own [] .full)] 0 7) w7,
qMov s19 w6,
seqO (r_store 7 s7 s21 0 0) wN] 6)
(.seq (.region [seqO (r_load 3 true s1 0 22) w22,
qMov s6 w23,
seqO (r_call 58 [s22,s23] 0 24) w24,
seqO (r_alloc [(.own [] .full),(.own [] .full),(.d (.sc (.int .i64 0))),(.d (.sc (.int .i64 0)))] 0 8) w8,
seqO (r_store 4 s8 s24 0 0) wN] 5)
(.seq (.seq (.region [qFad 3 s8 w25,
qLd s25 w26,
qBin bEql .eql s26 (cn 0) w27,
qMov s27 w28,
gdO s28 true w29 (qFad 0 s8 w29),
gdO s28 true w30 (qLd s29 w30),
gdO s28 true w31 (qFad 5 s7 w31),
gdO s28 true w32 (qLd s31 w32),
gdO s28 true w33 (seqO (r_callF 59 [s30,s32] 0 33) w33),
gdO s28 true w34 (seqO (r_un .not s33 0 34) w34),
gdO s28 true w35 (qMov s34 w35),
gdO s35 false w36 (qFad 1 s8 w36),
gdO s35 false w37 (qLd s36 w37),
gdO s35 false w38 (qFad 6 s7 w38),
gdO s35 false w39 (qLd s38 w39),
gdO s35 false w40 (seqO (r_callF 59 [s37,s39] 0 40) w40),
gdO s35 false w41 (seqO (r_un .not s40 0 41) w41),
gdO s28 true w42 (qPick s35 cT s41 w42),
qPick s28 s42 cF w43] 19)
(.cond s43 (.region [qFad 2 s8 w44,
seqO (r_store 1 s44 (cm 0) 0 0) wN,
qFad 3 s8 w45,
seqO (r_store 1 s45 (cn 32) 0 0) wN] 4)
.skip))
(.seq (.region [qFad 3 s8 w46,
qLd s46 w47,
qBin bNeq .neq s47 (cn 0) w48] 3)
(.cond s48 (.seq (.draw [⟨r_mov s6 0 49,w49,0⟩,
⟨r_fieldAddr 2 s8 0 50,w50,0⟩,
⟨r_load 1 false s50 0 51,w51,2⟩,
⟨r_fieldAddr 3 s8 0 52,w52,0⟩,
⟨r_load 1 false s52 0 53,w53,8⟩,
⟨r_mov s49 0 2,w2,1⟩,
⟨r_mov s51 0 3,w3,39⟩,
⟨r_mov s53 0 4,w4,127⟩] 8)
.ret)
.skip))))))
(.region [qBin bAdd .add s17 (cn 1) w54,
qMov s54 w17] 2)))))))
(.seq (.region [qMov (cn 0) w2,
qMov (cn 0) w3,
qMov (cn 0) w4] 3)
.ret)))),false⟩
def q37:QFn:=⟨3,[.t s6],
(.seq (.region [qMov cF w6] 1)
(.seq (.region [qMov s0 w7,
qMov s1 w8,
qBin bGeq .geq s7 s8 w9,
qMov s9 w10,
gdO s10 true w11 (qMov s0 w11),
gdO s10 true w12 (qMov s2 w12),
gdO s10 true w13 (qBin bLeq .leq s11 s12 w13),
qPick s10 s13 cF w14,
qMov s14 w6] 9)
.ret)),false⟩
def q38:QFn:=⟨2,[.t s4],
(.seq (.region [qMov cF w4] 1)
(.seq (.region [qMov s0 w5,
qMov s1 w6,
seqO (r_callF 60 [s5,s6] 0 7) w7,
qBin bGeq .geq s7 (cn 0) w8,
qMov s8 w4] 5)
.ret)),true⟩
def q39:QFn:=⟨1,[.t s2],
(.seq (.region [qMov cF w2] 1)
(.seq (.region [qMov s0 w3,
seqO (r_callF 37 [s3,(cn 0),(cn 65535)] 0 4) w4,
seqO (r_un .not s4 0 5) w5,
qMov s5 w2] 4)
.ret)),false⟩
def q40:QFn:=⟨1,[.t s2,.t s3],
(.seq (.region [seqO (r_box s0 0 1) w1,
qMov (cK (.own [] .full)) w2,
qMov (cn 0) w3] 3)
(.seq (.seq (.region [seqO (r_load 3 true s1 0 10) w10,
seqO (r_callF 61 [s10] 0 11) w11,
seqO (r_un .not s11 0 12) w12] 3)
(.cond s12 (.seq (.region [qMov (cK (.own [] .full)) w2,
qMov (cn 8) w3] 2)
.ret)
.skip))
(.seq (.region [seqO (r_alloc [(.own [] .full)] 0 4) w4] 1)
(.seq (.region [qFad 0 s1 w13,
qLd s13 w14,
seqO (r_call 62 [s4,s14] 0 15) w15] 3)
(.seq (.region [qFad 1 s1 w16,
qLd s16 w17,
seqO (r_len s17 0 18) w18,
seqO (r_call 63 [s4,s18] 0 19) w19] 4)
(.seq (.seq (.region [qFad 1 s1 w20,
qLd s20 w21,
seqO (r_len s21 0 22) w22,
qMov (cn 0) w23] 4)
(.block 0 (.loop (.seq (.region [qBin bLss .lss s23 s22 w24] 1)
(.seq (.cond s24 .skip
(.exit 0))
(.seq (.block 1 (.seq (.region [seqO (r_indexAddr 1 s21 s23 0 25) w25,
qLd s25 w26,
qMov s26 w6] 3)
(.region [qMov s6 w27,
seqO (r_call 64 [s4,s27] 0 28) w28] 2)))
(.region [qBin bAdd .add s23 (cn 1) w29,
qMov s29 w23] 2)))))))
(.seq (.region [qFad 2 s1 w30,
qLd s30 w31,
seqO (r_len s31 0 32) w32,
seqO (r_call 63 [s4,s32] 0 33) w33] 4)
(.seq (.seq (.region [qFad 2 s1 w34,
qLd s34 w35,
seqO (r_len s35 0 36) w36,
qMov (cn 0) w37] 4)
(.block 2 (.loop (.seq (.region [qBin bLss .lss s37 s36 w38] 1)
(.seq (.cond s38 .skip
(.exit 2))
(.seq (.block 3 (.seq (.region [seqO (r_indexAddr 7 s35 s37 0 39) w39,
seqO (r_load 7 true s39 0 40) w40,
seqO (r_alloc [(.d (.sc (.string ⟨#[]⟩))),(.d (.sc (.int .i64 0))),(.d (.sc (.int .i64 0))),(.own [] .full),(.own [] .full),(.own [] .full),(.own [] .full)] 0 8) w8,
seqO (r_store 7 s8 s40 0 0) wN] 4)
(.seq (.region [seqO (r_load 7 true s8 0 41) w41,
seqO (r_call 65 [s4,s41] 0 42) w42,
qMov s42 w9] 3)
(.seq (.region [qMov s9 w43,
qBin bNeq .neq s43 (cn 0) w44] 2)
(.cond s44 (.seq (.region [qMov s9 w45,
qMov (cK (.own [] .full)) w2,
qMov s45 w3] 3)
.ret)
.skip)))))
(.region [qBin bAdd .add s37 (cn 1) w46,
qMov s46 w37] 2)))))))
(.seq (.seq (.region [qFad 0 s4 w47,
qLd s47 w48,
seqO (r_len s48 0 49) w49,
qBin bGtr .gtr s49 (cn 20000) w50] 4)
(.cond s50 (.seq (.region [qMov (cK (.own [] .full)) w2,
qMov (cn 4) w3] 2)
.ret)
.skip))
(.seq (.region [qFad 0 s4 w51,
qLd s51 w52,
qMov s52 w2,
qMov (cn 0) w3] 4)
.ret)))))))))),false⟩
def q46:QFn:=⟨1,[.t s2,.t s3],
(.seq (.region [qMov (cb 0) w2,
qMov (cn 0) w3] 2)
(.seq (.region [seqO (r_callF 76 [] 0 6) w6,
seqO (r_alloc [(.d (.sc (.string ⟨#[]⟩))),(.d (.sc (.string ⟨#[]⟩))),(.d (.sc (.string ⟨#[]⟩))),(.d (.sc (.string ⟨#[]⟩))),(.d (.sc (.string ⟨#[]⟩))),(.d (.sc (.string ⟨#[]⟩))),(.d (.sc (.string ⟨#[]⟩))),(.d (.sc (.string ⟨#[]⟩))),(.d (.sc (.string ⟨#[]⟩))),(.d (.sc (.string ⟨#[]⟩))),(.d (.sc (.string ⟨#[]⟩))),(.d (.sc (.string ⟨#[]⟩))),(.d (.sc (.string ⟨#[]⟩))),(.d (.sc (.string ⟨#[]⟩))),(.d (.sc (.string ⟨#[]⟩))),(.d (.sc (.string ⟨#[]⟩))),(.d (.sc (.string ⟨#[]⟩))),(.d (.sc (.string ⟨#[]⟩))),(.d (.sc (.string ⟨#[]⟩))),(.d (.sc (.string ⟨#[]⟩))),(.d (.sc (.string ⟨#[]⟩))),(.d (.sc (.string ⟨#[]⟩))),(.d (.sc (.string ⟨#[]⟩))),(.d (.sc (.string ⟨#[]⟩))),(.d (.sc (.string ⟨#[]⟩))),(.d (.sc (.string ⟨#[]⟩))),(.d (.sc (.string ⟨#[]⟩))),(.d (.sc (.string ⟨#[]⟩))),(.d (.sc (.string ⟨#[]⟩))),(.d (.sc (.string ⟨#[]⟩))),(.d (.sc (.string ⟨#[]⟩))),(.d (.sc (.string ⟨#[]⟩))),(.d (.sc (.string ⟨#[]⟩))),(.d (.sc (.string ⟨#[]⟩))),(.d (.sc (.string ⟨#[]⟩)))] 0 4) w4,
seqO (r_store 35 s4 s6 0 0) wN] 3)
(.seq (.region [seqO (r_sliceL 1 35 1 s4 0 7) w7,
qMov s0 w8,
seqO (r_callF 77 [s7,s8] 0 9) w9,
qMov s9 w5] 4)
(.seq (.seq (.region [qMov s5 w10,
qBin bLss .lss s10 (cn 0) w11] 2)
(.cond s11 (.seq (.region [qMov (cb 0) w2,
qMov (cn 6) w3] 2)
.ret)
.skip))
(.seq (.region [qMov s5 w12,
qBin bAdd .add s12 (cn 1) w13,
seqO (r_conv .u8 s13 0 14) w14,
qMov s14 w2,
qMov (cn 0) w3] 5)
.ret))))),false⟩
def q47:QFn:=⟨2,[.cell s4 7 true,.t s5],
(.seq (.region [seqO (r_box s0 0 2) w2,
seqO (r_alloc [(.d (.sc (.string ⟨#[]⟩))),(.d (.sc (.int .i64 0))),(.d (.sc (.int .i64 0))),(.own [] .full),(.own [] .full),(.own [] .full),(.own [] .full)] 0 4) w4,
qMov (cn 0) w5] 3)
(.seq (.seq (.region [seqO (r_load 3 true s2 0 9) w9,
seqO (r_callF 57 [s9] 0 10) w10,
qMov s10 w6] 3)
(.seq (.region [qMov s6 w11,
qBin bNeq .neq s11 (cn 0) w12] 2)
(.cond s12 (.seq (.region [seqO (r_build [(.d (.sc (.string ⟨#[]⟩))),(.d (.sc (.int .i64 0))),(.d (.sc (.int .i64 0))),(.own [] .full),(.own [] .full),(.own [] .full),(.own [] .full)] [] 0 13) w13,
qMov s6 w14,
seqO (r_store 7 s4 s13 0 0) wN,
qMov s14 w5] 4)
.ret)
.skip)))
(.seq (.seq (.region [qFad 2 s2 w15,
qLd s15 w16,
qMov s1 w17,
seqO (r_callF 78 [s16,s17] 0 18) w18,
seqO (r_un .not s18 0 19) w19] 5)
(.cond s19 (.seq (.region [seqO (r_build [(.d (.sc (.string ⟨#[]⟩))),(.d (.sc (.int .i64 0))),(.d (.sc (.int .i64 0))),(.own [] .full),(.own [] .full),(.own [] .full),(.own [] .full)] [] 0 20) w20,
seqO (r_store 7 s4 s20 0 0) wN,
qMov (cn 2) w5] 3)
.ret)
.skip))
(.seq (.region [seqO (r_load 3 true s2 0 21) w21,
qMov s1 w22,
seqO (r_call 58 [s21,s22] 0 23) w23,
seqO (r_alloc [(.own [] .full),(.own [] .full),(.d (.sc (.int .i64 0))),(.d (.sc (.int .i64 0)))] 0 7) w7,
seqO (r_store 4 s7 s23 0 0) wN] 5)
(.seq (.seq (.region [qFad 3 s7 w24,
qLd s24 w25,
qBin bNeq .neq s25 (cn 0) w26] 3)
(.cond s26 (.seq (.draw [⟨r_build [(.d (.sc (.string ⟨#[]⟩))),(.d (.sc (.int .i64 0))),(.d (.sc (.int .i64 0))),(.own [] .full),(.own [] .full),(.own [] .full),(.own [] .full)] [] 0 27,w27,0⟩,
⟨r_fieldAddr 3 s7 0 28,w28,0⟩,
⟨r_load 1 false s28 0 29,w29,2⟩,
⟨r_store 7 s4 s27 0 0,wN,1⟩,
⟨r_mov s29 0 5,w5,15⟩] 5)
.ret)
.skip))
(.seq (.region [qFad 2 s2 w30,
qLd s30 w31,
qMov s1 w32,
seqO (r_indexAddr 7 s31 s32 0 33) w33,
seqO (r_load 7 true s33 0 34) w34,
seqO (r_alloc [(.d (.sc (.string ⟨#[]⟩))),(.d (.sc (.int .i64 0))),(.d (.sc (.int .i64 0))),(.own [] .full),(.own [] .full),(.own [] .full),(.own [] .full)] 0 8) w8,
seqO (r_store 7 s8 s34 0 0) wN] 7)
(.seq (.draw [⟨r_fieldAddr 3 s8 0 35,w35,0⟩,
⟨r_load 1 false s35 0 36,w36,1⟩,
⟨r_clone 2 24 s36 0 37,w37,3⟩,
⟨r_fieldAddr 4 s8 0 38,w38,0⟩,
⟨r_load 1 false s38 0 39,w39,8⟩,
⟨r_clone 4 32 s39 0 40,w40,31⟩,
⟨r_fieldAddr 3 s8 0 41,w41,31⟩,
⟨r_store 1 s41 s37 0 0,wN,127⟩,
⟨r_fieldAddr 4 s8 0 42,w42,255⟩,
⟨r_store 1 s42 s40 0 0,wN,511⟩] 10)
(.seq (.draw [⟨r_fieldAddr 0 s7 0 43,w43,0⟩,
⟨r_load 1 false s43 0 44,w44,1⟩,
⟨r_fieldAddr 1 s7 0 45,w45,0⟩,
⟨r_load 1 false s45 0 46,w46,4⟩,
⟨r_fieldAddr 5 s8 0 47,w47,3⟩,
⟨r_store 1 s47 s44 0 0,wN,19⟩,
⟨r_fieldAddr 6 s8 0 48,w48,63⟩,
⟨r_store 1 s48 s46 0 0,wN,127⟩] 8)
(.seq (.region [seqO (r_load 7 true s8 0 49) w49,
seqO (r_store 7 s4 s49 0 0) wN,
qMov (cn 0) w5] 3)
.ret))))))))),false⟩
def q53:QFn:=⟨2,[.t s4],
(.seq (.region [qMov cF w4] 1)
(.seq (.seq (.region [qMov s0 w6,
seqO (r_len s6 0 7) w7,
qMov s1 w8,
seqO (r_len s8 0 9) w9,
qBin bNeq .neq s7 s9 w10] 5)
(.cond s10 (.seq (.region [qMov cF w4] 1)
.ret)
.skip))
(.seq (.seq (.region [qMov (cn 0) w5] 1)
(.block 0 (.loop (.seq (.seq (.region [qMov s5 w11,
qMov s0 w12,
seqO (r_len s12 0 13) w13,
qBin bLss .lss s11 s13 w14] 4)
(.cond s14 .skip
(.exit 0)))
(.seq (.block 1 (.seq (.draw [⟨r_mov s0 0 17,w17,0⟩,
⟨r_mov s5 0 18,w18,0⟩,
⟨r_indexAddr 2 s17 s18 0 19,w19,3⟩,
⟨r_load 2 true s19 0 20,w20,7⟩,
⟨r_mov s1 0 21,w21,0⟩,
⟨r_mov s5 0 22,w22,0⟩,
⟨r_indexAddr 2 s21 s22 0 23,w23,48⟩,
⟨r_load 2 true s23 0 24,w24,112⟩,
⟨r_eqA true 2 [(0,2),(1,1)] s20 s24 0 25,w25,255⟩] 9)
(.cond s25 (.seq (.region [qMov cF w4] 1)
.ret)
.skip)))
(.region [qMov s5 w15,
qBin bAdd .add s15 (cn 1) w16,
qMov s16 w5] 3))))))
(.seq (.region [qMov cT w4] 1)
.ret)))),false⟩
def q57:QFn:=⟨1,[.t s2],
(.seq (.region [seqO (r_box s0 0 1) w1,
qMov (cn 0) w2] 2)
(.seq (.region [seqO (r_load 3 true s1 0 6) w6,
seqO (r_call 40 [s6] 0 7) w7,
qMov s7 w5,
seqO (r_extract s5 0 0 8) w8,
seqO (r_extract s5 1 0 9) w9,
qMov s8 w3,
qMov s9 w4] 7)
(.seq (.region [qMov s4 w10,
qMov s10 w2] 2)
.ret))),false⟩
def q58:QFn:=⟨2,[.cell s4 4 true],
(.seq (.region [seqO (r_box s0 0 2) w2,
seqO (r_alloc [(.own [] .full),(.own [] .full),(.d (.sc (.int .i64 0))),(.d (.sc (.int .i64 0)))] 0 4) w4] 2)
(.seq (.draw [⟨r_load 3 true s2 0 22,w22,0⟩,
⟨r_fieldAddr 2 s2 0 23,w23,0⟩,
⟨r_load 1 false s23 0 24,w24,2⟩,
⟨r_mov s1 0 25,w25,0⟩,
⟨r_indexAddr 7 s24 s25 0 26,w26,14⟩,
⟨r_load 7 true s26 0 27,w27,30⟩,
⟨r_build [(.own [] .full),(.own [] .full),(.own [] .full),(.d (.sc (.string ⟨#[]⟩))),(.d (.sc (.int .i64 0))),(.d (.sc (.int .i64 0))),(.own [] .full),(.own [] .full),(.own [] .full),(.own [] .full)] [(0,3,s22),(3,7,s27)] 0 28,w28,63⟩,
⟨r_alloc [(.own [] .full),(.own [] .full),(.own [] .full),(.d (.sc (.string ⟨#[]⟩))),(.d (.sc (.int .i64 0))),(.d (.sc (.int .i64 0))),(.own [] .full),(.own [] .full),(.own [] .full),(.own [] .full)] 0 5,w5,0⟩,
⟨r_store 10 s5 s28 0 0,wN,255⟩] 9)
(.seq (.region [qFad 3 s5 w29,
qFad 4 s29 w30,
qLd s30 w31,
qMov s31 w6] 4)
(.seq (.region [qMov s6 w33,
seqO (r_call 87 [s33] 0 34) w34,
qMov s34 w32,
seqO (r_extract s32 0 0 35) w35,
seqO (r_extract s32 1 0 36) w36,
qMov s35 w7,
qMov s36 w8] 7)
(.seq (.seq (.region [qMov s8 w37,
qBin bNeq .neq s37 (cn 0) w38] 2)
(.cond s38 (.seq (.region [seqO (r_build [(.own [] .full),(.own [] .full),(.d (.sc (.int .i64 0))),(.d (.sc (.int .i64 0)))] [(2,1,(cm 0)),(3,1,(cn 12))] 0 39) w39,
seqO (r_store 4 s4 s39 0 0) wN] 2)
.ret)
.skip))
(.seq (.seq (.region [qMov s1 w40,
qBin bEql .eql s40 (cn 0) w41,
qMov s41 w42,
gdO s42 true w43 (qFad 3 s5 w43),
gdO s42 true w44 (qFad 1 s43 w44),
gdO s42 true w45 (qLd s44 w45),
gdO s42 true w46 (qBin bGtr .gtr s45 (cn 0) w46),
gdO s42 true w47 (qMov s46 w47),
gdO s47 false w48 (qFad 3 s5 w48),
gdO s47 false w49 (qFad 2 s48 w49),
gdO s47 false w50 (qLd s49 w50),
gdO s47 false w51 (qBin bGeq .geq s50 (cn 0) w51),
gdO s42 true w52 (qPick s47 cT s51 w52),
qPick s42 s52 cF w53] 14)
(.cond s53 (.seq (.region [seqO (r_build [(.own [] .full),(.own [] .full),(.d (.sc (.int .i64 0))),(.d (.sc (.int .i64 0)))] [(2,1,(cm 0)),(3,1,(cn 30))] 0 54) w54,
seqO (r_store 4 s4 s54 0 0) wN] 2)
.ret)
.skip))
(.seq (.seq (.region [qMov s6 w55,
seqO (r_len s55 0 56) w56,
qMov (cn 0) w57] 3)
(.block 0 (.loop (.seq (.region [qBin bLss .lss s57 s56 w58] 1)
(.seq (.cond s58 .skip
(.exit 0))
(.seq (.block 1 (.seq (.region [qMov s57 w59,
seqO (r_indexAddr 4 s55 s57 0 60) w60,
seqO (r_load 4 true s60 0 61) w61,
seqO (r_alloc [(.d (.sc (.int .u8 0))),(.d (.sc (.int .i64 0))),(.d (.sc (.int .i64 0))),(.d (.sc (.int .i64 0)))] 0 10) w10,
qMov s59 w9,
seqO (r_store 4 s10 s61 0 0) wN] 6)
(.block 2 (.seq (.region [seqO (r_load 10 true s5 0 63) w63,
seqO (r_load 4 true s10 0 64) w64,
seqO (r_callF 88 [s63,s64] 0 65) w65,
qBin bNeq .neq s65 (cn 0) w66,
qMov s66 w62] 5)
(.cond s62 (.seq (.region [qMov s9 w67,
seqO (r_build [(.own [] .full),(.own [] .full),(.d (.sc (.int .i64 0))),(.d (.sc (.int .i64 0)))] [(2,1,s67),(3,1,(cn 16))] 0 68) w68,
seqO (r_store 4 s4 s68 0 0) wN] 3)
.ret)
(.seq (.region [qMov s7 w70,
qMov s9 w71,
seqO (r_indexAddr 1 s70 s71 0 72) w72,
qLd s72 w73,
seqO (r_un .not s73 0 74) w74,
qMov s74 w69] 6)
(.cond s69 (.seq (.region [qMov s9 w75,
seqO (r_build [(.own [] .full),(.own [] .full),(.d (.sc (.int .i64 0))),(.d (.sc (.int .i64 0)))] [(2,1,s75),(3,1,(cn 6))] 0 76) w76,
seqO (r_store 4 s4 s76 0 0) wN] 3)
.ret)
(.seq (.region [seqO (r_load 10 true s5 0 78) w78,
seqO (r_load 4 true s10 0 79) w79,
seqO (r_callF 89 [s78,s79] 0 80) w80,
seqO (r_un .not s80 0 81) w81,
qMov s81 w77] 5)
(.cond s77 (.seq (.region [qMov s9 w82,
seqO (r_build [(.own [] .full),(.own [] .full),(.d (.sc (.int .i64 0))),(.d (.sc (.int .i64 0)))] [(2,1,s82),(3,1,(cn 30))] 0 83) w83,
seqO (r_store 4 s4 s83 0 0) wN] 3)
.ret)
.skip)))))))))
(.region [qBin bAdd .add s57 (cn 1) w84,
qMov s84 w57] 2)))))))
(.seq (.region [seqO (r_load 10 true s5 0 86) w86,
seqO (r_call 90 [s86] 0 87) w87,
qMov s87 w85,
seqO (r_extract s85 0 0 88) w88,
seqO (r_extract s85 1 0 89) w89,
qMov s88 w11,
qMov s89 w12] 7)
(.seq (.seq (.region [qMov s12 w90,
seqO (r_un .not s90 0 91) w91] 2)
(.cond s91 (.seq (.region [seqO (r_build [(.own [] .full),(.own [] .full),(.d (.sc (.int .i64 0))),(.d (.sc (.int .i64 0)))] [(2,1,(cm 0)),(3,1,(cn 36))] 0 92) w92,
seqO (r_store 4 s4 s92 0 0) wN] 2)
.ret)
.skip))
(.seq (.region [qMov s6 w94,
qFad 3 s5 w95,
qFad 1 s95 w96,
qLd s96 w97,
qFad 3 s5 w98,
qFad 3 s98 w99,
qLd s99 w100,
seqO (r_len s100 0 101) w101,
seqO (r_call 91 [s94,s97,s101] 0 102) w102,
qMov s102 w93,
seqO (r_extract s93 0 0 103) w103,
seqO (r_extract s93 1 0 104) w104,
qMov s103 w13,
qMov s104 w8] 14)
(.seq (.seq (.region [qMov s8 w105,
qBin bNeq .neq s105 (cn 0) w106] 2)
(.cond s106 (.seq (.region [qMov s8 w107,
seqO (r_build [(.own [] .full),(.own [] .full),(.d (.sc (.int .i64 0))),(.d (.sc (.int .i64 0)))] [(2,1,(cm 0)),(3,1,s107)] 0 108) w108,
seqO (r_store 4 s4 s108 0 0) wN] 3)
.ret)
.skip))
(.seq (.seq (.region [qMov s6 w109,
seqO (r_len s109 0 110) w110,
qMov (cn 0) w111] 3)
(.block 3 (.loop (.seq (.region [qBin bLss .lss s111 s110 w112] 1)
(.seq (.cond s112 .skip
(.exit 3))
(.seq (.block 4 (.seq (.region [qMov s111 w113,
seqO (r_indexAddr 4 s109 s111 0 114) w114,
seqO (r_load 4 true s114 0 115) w115,
seqO (r_alloc [(.d (.sc (.int .u8 0))),(.d (.sc (.int .i64 0))),(.d (.sc (.int .i64 0))),(.d (.sc (.int .i64 0)))] 0 15) w15,
qMov s113 w14,
seqO (r_store 4 s15 s115 0 0) wN] 6)
(.seq (.region [seqO (r_load 4 true s15 0 117) w117,
seqO (r_call 92 [s117] 0 118) w118,
qMov s118 w116,
seqO (r_extract s116 0 0 119) w119,
seqO (r_extract s116 1 0 120) w120,
seqO (r_extract s116 2 0 121) w121,
qMov s119 w16,
qMov s120 w17,
qMov s121 w18] 9)
(.seq (.region [qMov s16 w122,
seqO (r_len s122 0 123) w123,
qMov (cn 0) w124] 3)
(.block 5 (.loop (.seq (.region [qBin bLss .lss s124 s123 w125] 1)
(.seq (.cond s125 .skip
(.exit 5))
(.seq (.block 6 (.seq (.region [seqO (r_indexAddr 1 s122 s124 0 126) w126,
qLd s126 w127,
qMov s127 w20] 3)
(.seq (.region [qMov s18 w128,
qBin bNeq .neq s128 (cn 0) w129,
qMov s129 w130,
gdO s130 false w131 (qMov s13 w131),
gdO s130 false w132 (qMov s14 w132),
gdO s130 false w133 (seqO (r_indexAddr 1 s131 s132 0 133) w133),
gdO s130 false w134 (qLd s133 w134),
gdO s130 false w135 (qMov s20 w135),
gdO s130 false w136 (qBin (bGen .shr) .shr s134 s135 w136),
gdO s130 false w137 (qBin (bGen .and) .and s136 (cu 1) w137),
gdO s130 false w138 (qBin bEql .eql s137 (cu 0) w138),
qPick s130 cT s138 w139] 12)
(.cond s139 (.seq (.region [qMov s14 w140,
seqO (r_build [(.own [] .full),(.own [] .full),(.d (.sc (.int .i64 0))),(.d (.sc (.int .i64 0)))] [(2,1,s140),(3,1,(cn 38))] 0 141) w141,
seqO (r_store 4 s4 s141 0 0) wN] 3)
.ret)
.skip))))
(.region [qBin bAdd .add s124 (cn 1) w142,
qMov s142 w124] 2))))))))))
(.region [qBin bAdd .add s111 (cn 1) w143,
qMov s143 w111] 2)))))))
(.seq (.region [seqO (r_alloc [(.own [] .full),(.own [] .full),(.d (.sc (.int .i64 0))),(.d (.sc (.int .i64 0)))] 0 21) w21] 1)
(.seq (.region [qMov s11 w145,
seqO (r_call 93 [s145] 0 146) w146,
qMov s146 w144,
seqO (r_extract s144 0 0 147) w147,
seqO (r_extract s144 1 0 148) w148,
qFad 0 s21 w149,
seqO (r_store 1 s149 s147 0 0) wN,
qFad 3 s21 w150,
seqO (r_store 1 s150 s148 0 0) wN] 9)
(.seq (.seq (.region [qFad 3 s21 w151,
qLd s151 w152,
qBin bEql .eql s152 (cn 0) w153] 3)
(.cond s153 (.region [qMov s13 w155,
seqO (r_call 93 [s155] 0 156) w156,
qMov s156 w154,
seqO (r_extract s154 0 0 157) w157,
seqO (r_extract s154 1 0 158) w158,
qFad 1 s21 w159,
seqO (r_store 1 s159 s157 0 0) wN,
qFad 3 s21 w160,
seqO (r_store 1 s160 s158 0 0) wN] 9)
.skip))
(.seq (.region [seqO (r_load 4 true s21 0 161) w161,
seqO (r_store 4 s4 s161 0 0) wN] 2)
.ret)))))))))))))))),false⟩
def q59:QFn:=⟨2,[.t s4],
(.seq (.region [qMov cF w4] 1)
(.seq (.seq (.region [qMov s0 w6,
seqO (r_len s6 0 7) w7,
qMov s1 w8,
seqO (r_len s8 0 9) w9,
qBin bNeq .neq s7 s9 w10] 5)
(.cond s10 (.seq (.region [qMov cF w4] 1)
.ret)
.skip))
(.seq (.seq (.region [qMov s0 w11,
seqO (r_len s11 0 12) w12,
qMov (cn 0) w13] 3)
(.block 0 (.loop (.seq (.region [qBin bLss .lss s13 s12 w14] 1)
(.seq (.cond s14 .skip
(.exit 0))
(.seq (.block 1 (.seq (.region [qMov s13 w15,
qMov s15 w5] 2)
(.seq (.draw [⟨r_mov s0 0 16,w16,0⟩,
⟨r_mov s5 0 17,w17,0⟩,
⟨r_indexAddr 2 s16 s17 0 18,w18,3⟩,
⟨r_load 2 true s18 0 19,w19,7⟩,
⟨r_mov s1 0 20,w20,0⟩,
⟨r_mov s5 0 21,w21,0⟩,
⟨r_indexAddr 2 s20 s21 0 22,w22,48⟩,
⟨r_load 2 true s22 0 23,w23,112⟩,
⟨r_eqA true 2 [(0,1),(1,1)] s19 s23 0 24,w24,255⟩] 9)
(.cond s24 (.seq (.region [qMov cF w4] 1)
.ret)
.skip))))
(.region [qBin bAdd .add s13 (cn 1) w25,
qMov s25 w13] 2)))))))
(.seq (.region [qMov cT w4] 1)
.ret)))),false⟩
def q60:QFn:=⟨2,[.t s4],
(.seq (.region [qMov (cn 0) w4] 1)
(.seq (.seq (.region [qMov s0 w6,
seqO (r_len s6 0 7) w7,
qMov (cn 0) w8] 3)
(.block 0 (.loop (.seq (.region [qBin bLss .lss s8 s7 w9] 1)
(.seq (.cond s9 .skip
(.exit 0))
(.seq (.block 1 (.seq (.region [qMov s8 w10,
qMov s10 w5] 2)
(.seq (.region [qMov s1 w11,
qMov s0 w12,
qMov s5 w13,
seqO (r_indexAddr 1 s12 s13 0 14) w14,
qLd s14 w15,
seqO (r_callv s11 [s15] 0 16) w16] 6)
(.cond s16 (.seq (.region [qMov s5 w17,
qMov s17 w4] 2)
.ret)
.skip))))
(.region [qBin bAdd .add s8 (cn 1) w18,
qMov s18 w8] 2)))))))
(.seq (.region [qMov (cm 0) w4] 1)
.ret))),true⟩
def q61:QFn:=⟨1,[.t s2],
(.seq (.region [seqO (r_box s0 0 1) w1,
qMov cF w2] 2)
(.seq (.seq (.region [qFad 0 s1 w12,
qLd s12 w13,
seqO (r_callF 94 [s13] 0 14) w14,
qBin bNeq .neq s14 (cn 0) w15,
qMov s15 w16,
gdO s16 false w17 (qFad 1 s1 w17),
gdO s16 false w18 (qLd s17 w18),
gdO s16 false w19 (seqO (r_len s18 0 19) w19),
gdO s16 false w20 (qBin bGtr .gtr s19 (cn 32) w20),
qPick s16 cT s20 w21,
qMov s21 w22,
gdO s22 false w23 (qFad 2 s1 w23),
gdO s22 false w24 (qLd s23 w24),
gdO s22 false w25 (seqO (r_len s24 0 25) w25),
gdO s22 false w26 (qBin bEql .eql s25 (cn 0) w26),
qPick s22 cT s26 w27,
qMov s27 w28,
gdO s28 false w29 (qFad 2 s1 w29),
gdO s28 false w30 (qLd s29 w30),
gdO s28 false w31 (seqO (r_len s30 0 31) w31),
gdO s28 false w32 (qBin bGtr .gtr s31 (cn 32) w32),
qPick s28 cT s32 w33] 22)
(.cond s33 (.seq (.region [qMov cF w2] 1)
.ret)
.skip))
(.seq (.seq (.region [qFad 0 s1 w34,
qLd s34 w35,
seqO (r_len s35 0 36) w36,
qMov (cn 0) w37] 4)
(.block 0 (.loop (.seq (.region [qBin bLss .lss s37 s36 w38] 1)
(.seq (.cond s38 .skip
(.exit 0))
(.seq (.block 1 (.seq (.region [qMov s37 w39,
qMov s39 w3] 2)
(.seq (.region [qFad 0 s1 w41,
qLd s41 w42,
qMov s3 w43,
seqO (r_callF 95 [s42,s43] 0 44) w44,
qMov s44 w40,
seqO (r_extract s40 0 0 45) w45,
seqO (r_extract s40 1 0 46) w46,
seqO (r_extract s40 2 0 47) w47,
qMov s45 w4,
qMov s46 w5,
qMov s47 w6] 11)
(.seq (.region [qMov s6 w48,
qBin bNeq .neq s48 (cn 0) w49] 2)
(.cond s49 (.seq (.region [qMov cF w2] 1)
.ret)
.skip)))))
(.region [qBin bAdd .add s37 (cn 1) w50,
qMov s50 w37] 2)))))))
(.seq (.seq (.region [qFad 1 s1 w51,
qLd s51 w52,
seqO (r_len s52 0 53) w53,
qMov (cn 0) w54] 4)
(.block 2 (.loop (.seq (.region [qBin bLss .lss s54 s53 w55] 1)
(.seq (.cond s55 .skip
(.exit 2))
(.seq (.block 3 (.seq (.region [seqO (r_indexAddr 1 s52 s54 0 56) w56,
qLd s56 w57,
qMov s57 w8] 3)
(.seq (.region [qMov s8 w58,
seqO (r_lenS s58 0 59) w59,
qBin bGtr .gtr s59 (cn 64) w60] 3)
(.cond s60 (.seq (.region [qMov cF w2] 1)
.ret)
.skip))))
(.region [qBin bAdd .add s54 (cn 1) w61,
qMov s61 w54] 2)))))))
(.seq (.region [seqO (r_mkSet 0 62) w62,
qMov s62 w9] 2)
(.seq (.seq (.region [qFad 2 s1 w63,
qLd s63 w64,
seqO (r_len s64 0 65) w65,
qMov (cn 0) w66] 4)
(.block 4 (.loop (.seq (.region [qBin bLss .lss s66 s65 w67] 1)
(.seq (.cond s67 .skip
(.exit 4))
(.seq (.block 5 (.seq (.region [seqO (r_indexAddr 7 s64 s66 0 68) w68,
seqO (r_load 7 true s68 0 69) w69,
seqO (r_alloc [(.d (.sc (.string ⟨#[]⟩))),(.d (.sc (.int .i64 0))),(.d (.sc (.int .i64 0))),(.own [] .full),(.own [] .full),(.own [] .full),(.own [] .full)] 0 11) w11,
seqO (r_store 7 s11 s69 0 0) wN] 4)
(.seq (.seq (.region [qMov s9 w70,
qFad 0 s11 w71,
qLd s71 w72,
seqO (r_hasK s70 s72 0 73) w73,
qMov s73 w74,
gdO s74 false w75 (qFad 0 s1 w75),
gdO s74 false w76 (qLd s75 w76),
gdO s74 false w77 (seqO (r_load 7 true s11 0 77) w77),
gdO s74 false w78 (seqO (r_callF 96 [s76,s77] 0 78) w78),
gdO s74 false w79 (seqO (r_un .not s78 0 79) w79),
qPick s74 cT s79 w80] 11)
(.cond s80 (.seq (.region [qMov cF w2] 1)
.ret)
.skip))
(.region [qMov s9 w81,
qFad 0 s11 w82,
qLd s82 w83,
seqO (r_addK s81 s83 0 0) wN] 4))))
(.region [qBin bAdd .add s66 (cn 1) w84,
qMov s84 w66] 2)))))))
(.seq (.region [qMov cT w2] 1)
.ret))))))),false⟩
def q62:QFn:=⟨2,[],
(.seq (.region [qMov s0 w6,
qMov s1 w7,
seqO (r_len s7 0 8) w8,
seqO (r_call 63 [s6,s8] 0 9) w9] 4)
(.seq (.region [qMov s1 w10,
seqO (r_len s10 0 11) w11,
qMov (cn 0) w12] 3)
(.block 0 (.loop (.seq (.region [qBin bLss .lss s12 s11 w13] 1)
(.seq (.cond s13 .skip
(.exit 0))
(.seq (.block 1 (.seq (.region [seqO (r_indexAddr 4 s10 s12 0 14) w14,
seqO (r_load 4 true s14 0 15) w15,
seqO (r_alloc [(.d (.sc (.int .u8 0))),(.d (.sc (.int .i64 0))),(.d (.sc (.int .i64 0))),(.own [] .full)] 0 5) w5,
seqO (r_store 4 s5 s15 0 0) wN] 4)
(.seq (.draw [⟨r_mov s0 0 16,w16,0⟩,
⟨r_mov s0 0 17,w17,0⟩,
⟨r_nilCheck s17 0 18,w18,2⟩,
⟨r_fieldAddr 0 s18 0 19,w19,6⟩,
⟨r_load 1 false s19 0 20,w20,14⟩,
⟨r_fieldAddr 0 s5 0 21,w21,0⟩,
⟨r_load 1 false s21 0 22,w22,32⟩,
⟨r_buildSlice 1 1 [(.sc (.int .u8 0))] [(0,s22)] 0 23,w23,96⟩,
⟨r_append 1 1 s20 s23 0 24,w24,254⟩,
⟨r_nilCheck s16 0 25,w25,511⟩,
⟨r_fieldAddr 0 s25 0 26,w26,1023⟩,
⟨r_store 1 s26 s24 0 0,wN,2047⟩] 12)
(.seq (.region [qFad 0 s5 w27,
qLd s27 w28] 2)
(.block 2 (.seq (.seq (.region [qBin bEql .eql s28 (cb 4) w30,
qMov s30 w29] 2)
(.cond s29 .skip
(.region [qBin bEql .eql s28 (cb 7) w31,
qMov s31 w29] 2)))
(.cond s29 (.region [qMov s0 w32,
qFad 1 s5 w33,
qLd s33 w34,
seqO (r_call 63 [s32,s34] 0 35) w35] 4)
(.seq (.region [qBin bEql .eql s28 (cb 6) w37,
qMov s37 w36] 2)
(.cond s36 (.seq (.region [qMov s0 w38,
qFad 1 s5 w39,
qLd s39 w40,
seqO (r_call 63 [s38,s40] 0 41) w41] 4)
(.region [qMov s0 w42,
qFad 2 s5 w43,
qLd s43 w44,
seqO (r_call 63 [s42,s44] 0 45) w45] 4))
(.seq (.region [qBin bEql .eql s28 (cb 5) w47,
qMov s47 w46] 2)
(.cond s46 (.region [qMov s0 w48,
qFad 3 s5 w49,
qLd s49 w50,
seqO (r_call 97 [s48,s50] 0 51) w51] 4)
.skip)))))))))))
(.region [qBin bAdd .add s12 (cn 1) w52,
qMov s52 w12] 2)))))))),true⟩
def q63:QFn:=⟨2,[],
(.draw [⟨r_mov s0 0 4,w4,0⟩,
⟨r_mov s0 0 5,w5,0⟩,
⟨r_nilCheck s5 0 6,w6,2⟩,
⟨r_fieldAddr 0 s6 0 7,w7,6⟩,
⟨r_load 1 false s7 0 8,w8,14⟩,
⟨r_mov s1 0 9,w9,0⟩,
⟨r_conv .u64 s9 0 10,w10,32⟩,
⟨r_call 98 [s10] 0 11,w11,96⟩,
⟨r_append 1 1 s8 s11 0 12,w12,254⟩,
⟨r_nilCheck s4 0 13,w13,511⟩,
⟨r_fieldAddr 0 s13 0 14,w14,1023⟩,
⟨r_store 1 s14 s12 0 0,wN,2047⟩] 12),true⟩
def q64:QFn:=⟨2,[],
(.seq (.region [qMov s0 w4,
qMov s1 w5,
seqO (r_lenS s5 0 6) w6,
seqO (r_call 63 [s4,s6] 0 7) w7] 4)
(.region [qMov s0 w8,
qMov s0 w9,
seqO (r_nilCheck s9 0 10) w10,
qFad 0 s10 w11,
qLd s11 w12,
qMov s1 w13,
seqO (r_append 1 1 s12 s13 0 14) w14,
seqO (r_nilCheck s8 0 15) w15,
qFad 0 s15 w16,
seqO (r_store 1 s16 s14 0 0) wN] 10)),true⟩
def q65:QFn:=⟨2,[.t s4],
(.seq (.region [seqO (r_box s1 0 3) w3,
qMov (cn 0) w4] 2)
(.seq (.region [qMov s0 w13,
qFad 0 s3 w14,
qLd s14 w15,
seqO (r_call 64 [s13,s15] 0 16) w16] 4)
(.seq (.region [qMov s0 w17,
qFad 1 s3 w18,
qLd s18 w19,
seqO (r_call 63 [s17,s19] 0 20) w20] 4)
(.seq (.draw [⟨r_mov s0 0 21,w21,0⟩,
⟨r_mov s0 0 22,w22,0⟩,
⟨r_nilCheck s22 0 23,w23,2⟩,
⟨r_fieldAddr 0 s23 0 24,w24,6⟩,
⟨r_load 1 false s24 0 25,w25,14⟩,
⟨r_fieldAddr 2 s3 0 26,w26,0⟩,
⟨r_load 1 false s26 0 27,w27,32⟩,
⟨r_call 99 [s27] 0 28,w28,96⟩,
⟨r_append 1 1 s25 s28 0 29,w29,254⟩,
⟨r_nilCheck s21 0 30,w30,511⟩,
⟨r_fieldAddr 0 s30 0 31,w31,1023⟩,
⟨r_store 1 s31 s29 0 0,wN,2047⟩] 12)
(.seq (.region [qMov s0 w32,
qFad 3 s3 w33,
qLd s33 w34,
seqO (r_call 97 [s32,s34] 0 35) w35] 4)
(.seq (.region [qMov s0 w36,
qFad 4 s3 w37,
qLd s37 w38,
seqO (r_len s38 0 39) w39,
seqO (r_call 63 [s36,s39] 0 40) w40] 5)
(.seq (.seq (.region [qFad 4 s3 w41,
qLd s41 w42,
seqO (r_len s42 0 43) w43,
qMov (cn 0) w44] 4)
(.block 0 (.loop (.seq (.region [qBin bLss .lss s44 s43 w45] 1)
(.seq (.cond s45 .skip
(.exit 0))
(.seq (.block 1 (.seq (.region [seqO (r_indexAddr 4 s42 s44 0 46) w46,
seqO (r_load 4 true s46 0 47) w47,
seqO (r_alloc [(.d (.sc (.int .u8 0))),(.d (.sc (.int .i64 0))),(.d (.sc (.int .i64 0))),(.d (.sc (.int .i64 0)))] 0 6) w6,
seqO (r_store 4 s6 s47 0 0) wN] 4)
(.seq (.region [seqO (r_load 4 true s6 0 49) w49,
seqO (r_call 100 [s49] 0 50) w50,
qMov s50 w48,
seqO (r_extract s48 0 0 51) w51,
seqO (r_extract s48 1 0 52) w52,
qMov s51 w7,
qMov s52 w8] 7)
(.seq (.seq (.region [qMov s8 w53,
qBin bNeq .neq s53 (cn 0) w54] 2)
(.cond s54 (.seq (.region [qMov s8 w55,
qMov s55 w4] 2)
.ret)
.skip))
(.region [qMov s0 w56,
qMov s0 w57,
seqO (r_nilCheck s57 0 58) w58,
qFad 0 s58 w59,
qLd s59 w60,
qMov s7 w61,
seqO (r_append 1 1 s60 s61 0 62) w62,
seqO (r_nilCheck s56 0 63) w63,
qFad 0 s63 w64,
seqO (r_store 1 s64 s62 0 0) wN] 10)))))
(.region [qBin bAdd .add s44 (cn 1) w65,
qMov s65 w44] 2)))))))
(.seq (.seq (.region [qFad 5 s3 w66,
qLd s66 w67,
qFad 6 s3 w68,
qLd s68 w69,
seqO (r_buildSlice 1 2 [(.sl [])] [(0,s67),(1,s69)] 0 70) w70,
seqO (r_len s70 0 71) w71,
qMov (cn 0) w72] 7)
(.block 2 (.loop (.seq (.region [qBin bLss .lss s72 s71 w73] 1)
(.seq (.cond s73 .skip
(.exit 2))
(.seq (.block 3 (.seq (.region [seqO (r_indexAddr 1 s70 s72 0 74) w74,
qLd s74 w75,
qMov s75 w10] 3)
(.seq (.region [qMov s10 w77,
qFad 4 s3 w78,
qLd s78 w79,
seqO (r_len s79 0 80) w80,
seqO (r_call 101 [s77,s80] 0 81) w81,
qMov s81 w76,
seqO (r_extract s76 0 0 82) w82,
seqO (r_extract s76 1 0 83) w83,
qMov s82 w11,
qMov s83 w12] 10)
(.seq (.seq (.region [qMov s12 w84,
qBin bNeq .neq s84 (cn 0) w85] 2)
(.cond s85 (.seq (.region [qMov s12 w86,
qMov s86 w4] 2)
.ret)
.skip))
(.region [qMov s0 w87,
qMov s0 w88,
seqO (r_nilCheck s88 0 89) w89,
qFad 0 s89 w90,
qLd s90 w91,
qMov s11 w92,
seqO (r_append 1 1 s91 s92 0 93) w93,
seqO (r_nilCheck s87 0 94) w94,
qFad 0 s94 w95,
seqO (r_store 1 s95 s93 0 0) wN] 10)))))
(.region [qBin bAdd .add s72 (cn 1) w96,
qMov s96 w72] 2)))))))
(.seq (.region [qMov (cn 0) w4] 1)
.ret))))))))),true⟩
def q76:QFn:=⟨0,[.cell s0 35 true],
(.seq (.region [seqO (r_alloc [(.d (.sc (.string ⟨#[]⟩))),(.d (.sc (.string ⟨#[]⟩))),(.d (.sc (.string ⟨#[]⟩))),(.d (.sc (.string ⟨#[]⟩))),(.d (.sc (.string ⟨#[]⟩))),(.d (.sc (.string ⟨#[]⟩))),(.d (.sc (.string ⟨#[]⟩))),(.d (.sc (.string ⟨#[]⟩))),(.d (.sc (.string ⟨#[]⟩))),(.d (.sc (.string ⟨#[]⟩))),(.d (.sc (.string ⟨#[]⟩))),(.d (.sc (.string ⟨#[]⟩))),(.d (.sc (.string ⟨#[]⟩))),(.d (.sc (.string ⟨#[]⟩))),(.d (.sc (.string ⟨#[]⟩))),(.d (.sc (.string ⟨#[]⟩))),(.d (.sc (.string ⟨#[]⟩))),(.d (.sc (.string ⟨#[]⟩))),(.d (.sc (.string ⟨#[]⟩))),(.d (.sc (.string ⟨#[]⟩))),(.d (.sc (.string ⟨#[]⟩))),(.d (.sc (.string ⟨#[]⟩))),(.d (.sc (.string ⟨#[]⟩))),(.d (.sc (.string ⟨#[]⟩))),(.d (.sc (.string ⟨#[]⟩))),(.d (.sc (.string ⟨#[]⟩))),(.d (.sc (.string ⟨#[]⟩))),(.d (.sc (.string ⟨#[]⟩))),(.d (.sc (.string ⟨#[]⟩))),(.d (.sc (.string ⟨#[]⟩))),(.d (.sc (.string ⟨#[]⟩))),(.d (.sc (.string ⟨#[]⟩))),(.d (.sc (.string ⟨#[]⟩))),(.d (.sc (.string ⟨#[]⟩))),(.d (.sc (.string ⟨#[]⟩)))] 0 0) w0] 1)
(.seq (.region [seqO (r_build [(.d (.sc (.string ⟨#[]⟩))),(.d (.sc (.string ⟨#[]⟩))),(.d (.sc (.string ⟨#[]⟩))),(.d (.sc (.string ⟨#[]⟩))),(.d (.sc (.string ⟨#[]⟩))),(.d (.sc (.string ⟨#[]⟩))),(.d (.sc (.string ⟨#[]⟩))),(.d (.sc (.string ⟨#[]⟩))),(.d (.sc (.string ⟨#[]⟩))),(.d (.sc (.string ⟨#[]⟩))),(.d (.sc (.string ⟨#[]⟩))),(.d (.sc (.string ⟨#[]⟩))),(.d (.sc (.string ⟨#[]⟩))),(.d (.sc (.string ⟨#[]⟩))),(.d (.sc (.string ⟨#[]⟩))),(.d (.sc (.string ⟨#[]⟩))),(.d (.sc (.string ⟨#[]⟩))),(.d (.sc (.string ⟨#[]⟩))),(.d (.sc (.string ⟨#[]⟩))),(.d (.sc (.string ⟨#[]⟩))),(.d (.sc (.string ⟨#[]⟩))),(.d (.sc (.string ⟨#[]⟩))),(.d (.sc (.string ⟨#[]⟩))),(.d (.sc (.string ⟨#[]⟩))),(.d (.sc (.string ⟨#[]⟩))),(.d (.sc (.string ⟨#[]⟩))),(.d (.sc (.string ⟨#[]⟩))),(.d (.sc (.string ⟨#[]⟩))),(.d (.sc (.string ⟨#[]⟩))),(.d (.sc (.string ⟨#[]⟩))),(.d (.sc (.string ⟨#[]⟩))),(.d (.sc (.string ⟨#[]⟩))),(.d (.sc (.string ⟨#[]⟩))),(.d (.sc (.string ⟨#[]⟩))),(.d (.sc (.string ⟨#[]⟩)))] [(0,1,(cK (.d (.sc (.string ⟨#[]⟩))))),(1,1,(cK (.d (.sc (.string ⟨#[105,110,116]⟩))))),(2,1,(cK (.d (.sc (.string ⟨#[116,101,120,116]⟩))))),(3,1,(cK (.d (.sc (.string ⟨#[98,111,111,108]⟩))))),(4,1,(cK (.d (.sc (.string ⟨#[122,101,114,111]⟩))))),(5,1,(cK (.d (.sc (.string ⟨#[99,111,112,121]⟩))))),(6,1,(cK (.d (.sc (.string ⟨#[97,100,100]⟩))))),(7,1,(cK (.d (.sc (.string ⟨#[115,117,98]⟩))))),(8,1,(cK (.d (.sc (.string ⟨#[109,117,108]⟩))))),(9,1,(cK (.d (.sc (.string ⟨#[100,105,118]⟩))))),(10,1,(cK (.d (.sc (.string ⟨#[108,101,115,115]⟩))))),(11,1,(cK (.d (.sc (.string ⟨#[115,97,109,101]⟩))))),(12,1,(cK (.d (.sc (.string ⟨#[110,111,116]⟩))))),(13,1,(cK (.d (.sc (.string ⟨#[102,105,101,108,100]⟩))))),(14,1,(cK (.d (.sc (.string ⟨#[112,117,116]⟩))))),(15,1,(cK (.d (.sc (.string ⟨#[110,101,119]⟩))))),(16,1,(cK (.d (.sc (.string ⟨#[108,111,97,100]⟩))))),(17,1,(cK (.d (.sc (.string ⟨#[115,116,111,114,101]⟩))))),(18,1,(cK (.d (.sc (.string ⟨#[109,97,107,101]⟩))))),(19,1,(cK (.d (.sc (.string ⟨#[97,116]⟩))))),(20,1,(cK (.d (.sc (.string ⟨#[115,101,116]⟩))))),(21,1,(cK (.d (.sc (.string ⟨#[108,101,110]⟩))))),(22,1,(cK (.d (.sc (.string ⟨#[106,117,109,112]⟩))))),(23,1,(cK (.d (.sc (.string ⟨#[98,114,97,110,99,104]⟩))))),(24,1,(cK (.d (.sc (.string ⟨#[97,114,103]⟩))))),(25,1,(cK (.d (.sc (.string ⟨#[99,97,108,108]⟩))))),(26,1,(cK (.d (.sc (.string ⟨#[100,101,102,101,114]⟩))))),(27,1,(cK (.d (.sc (.string ⟨#[103,111]⟩))))),(28,1,(cK (.d (.sc (.string ⟨#[112,97,110,105,99]⟩))))),(29,1,(cK (.d (.sc (.string ⟨#[114,101,99,111,118,101,114]⟩))))),(30,1,(cK (.d (.sc (.string ⟨#[101,120,105,116]⟩))))),(31,1,(cK (.d (.sc (.string ⟨#[121,105,101,108,100]⟩))))),(32,1,(cK (.d (.sc (.string ⟨#[98,108,111,99,107]⟩))))),(33,1,(cK (.d (.sc (.string ⟨#[119,97,107,101]⟩))))),(34,1,(cK (.d (.sc (.string ⟨#[114,101,116,117,114,110]⟩)))))] 0 1) w1,
seqO (r_store 35 s0 s1 0 0) wN] 2)
.ret)),false⟩
def q77:QFn:=⟨2,[.t s4],
(.seq (.region [qMov (cn 0) w4] 1)
(.seq (.seq (.region [qMov s0 w6,
seqO (r_len s6 0 7) w7,
qMov (cn 0) w8] 3)
(.block 0 (.loop (.seq (.region [qBin bLss .lss s8 s7 w9] 1)
(.seq (.cond s9 .skip
(.exit 0))
(.seq (.block 1 (.seq (.region [qMov s8 w10,
qMov s10 w5] 2)
(.seq (.region [qMov s1 w11,
qMov s0 w12,
qMov s5 w13,
seqO (r_indexAddr 1 s12 s13 0 14) w14,
qLd s14 w15,
qBin bEql .eql s11 s15 w16] 6)
(.cond s16 (.seq (.region [qMov s5 w17,
qMov s17 w4] 2)
.ret)
.skip))))
(.region [qBin bAdd .add s8 (cn 1) w18,
qMov s18 w8] 2)))))))
(.seq (.region [qMov (cm 0) w4] 1)
.ret))),false⟩
def q78:QFn:=⟨2,[.t s4],
(.seq (.region [qMov cF w4] 1)
(.seq (.region [qMov s1 w5,
qBin bGeq .geq s5 (cn 0) w6,
qMov s6 w7,
gdO s7 true w8 (qMov s1 w8),
gdO s7 true w9 (qMov s0 w9),
gdO s7 true w10 (seqO (r_len s9 0 10) w10),
gdO s7 true w11 (qBin bLss .lss s8 s10 w11),
qPick s7 s11 cF w12,
qMov s12 w4] 9)
.ret)),false⟩
def q87:QFn:=⟨1,[.t s2,.t s3],
(.seq (.region [qMov (cK (.own [] .full)) w2,
qMov (cn 0) w3] 2)
(.seq (.seq (.region [qMov s0 w6,
seqO (r_callF 133 [s6] 0 7) w7,
qMov s7 w4] 3)
(.seq (.region [qMov s4 w8,
qBin bNeq .neq s8 (cn 0) w9] 2)
(.cond s9 (.seq (.region [qMov s4 w10,
qMov (cK (.own [] .full)) w2,
qMov s10 w3] 3)
.ret)
.skip)))
(.seq (.region [qMov s0 w11,
seqO (r_len s11 0 12) w12,
seqO (r_makeSlice 1 1 [(.sc (.bool false))] s12 s12 1 13) w13,
seqO (r_alloc [(.own [] .full)] 0 5) w5,
seqO (r_store 1 s5 s13 0 0) wN] 5)
(.seq (.region [qMov s0 w14,
seqO (r_makeFunc 135 [s5] 0 15) w15,
seqO (r_callF 134 [s14,s15] 0 16) w16] 3)
(.seq (.region [qLd s5 w17,
qLd s5 w18,
seqO (r_len s18 0 19) w19,
qBin bSub .sub s19 (cn 1) w20,
seqO (r_indexAddr 1 s17 s20 0 21) w21,
seqO (r_store 1 s21 cT 0 0) wN] 6)
(.seq (.region [qLd s5 w22,
qMov s22 w2,
qMov (cn 0) w3] 3)
.ret)))))),false⟩
def q88:QFn:=⟨2,[.t s4],
(.seq (.region [seqO (r_box s0 0 2) w2,
seqO (r_box s1 0 3) w3,
qMov (cn 0) w4] 3)
(.seq (.region [seqO (r_load 4 true s3 0 12) w12,
seqO (r_call 92 [s12] 65537 13) w13,
qMov s13 w11,
seqO (r_extract s11 0 0 14) w14,
seqO (r_extract s11 1 0 15) w15,
seqO (r_extract s11 2 0 16) w16,
qMov s14 w5,
qMov s15 w6,
qMov s16 w7] 9)
(.seq (.seq (.region [qMov s7 w17,
qBin bNeq .neq s17 (cn 0) w18] 2)
(.cond s18 (.seq (.region [qMov s7 w19,
qMov s19 w4] 2)
.ret)
.skip))
(.seq (.seq (.region [qMov s5 w20,
qMov s6 w21,
seqO (r_append 1 8 s20 s21 0 22) w22,
seqO (r_len s22 0 23) w23,
qMov (cn 0) w24] 5)
(.block 0 (.loop (.seq (.region [qBin bLss .lss s24 s23 w25] 1)
(.seq (.cond s25 .skip
(.exit 0))
(.seq (.block 1 (.seq (.region [seqO (r_indexAddr 1 s22 s24 0 26) w26,
qLd s26 w27,
qMov s27 w9] 3)
(.seq (.region [qFad 3 s2 w28,
qFad 3 s28 w29,
qLd s29 w30,
qMov s9 w31,
seqO (r_callF 136 [s30,s31] 0 32) w32,
seqO (r_un .not s32 0 33) w33] 6)
(.cond s33 (.seq (.region [qMov (cn 16) w4] 1)
.ret)
.skip))))
(.region [qBin bAdd .add s24 (cn 1) w34,
qMov s34 w24] 2)))))))
(.seq (.seq (.region [seqO (r_load 4 true s3 0 35) w35,
seqO (r_callF 137 [s35] 0 36) w36,
qMov s36 w10] 3)
(.seq (.region [qMov s10 w37,
qFad 0 s2 w38,
qFad 2 s38 w39,
qLd s39 w40,
seqO (r_len s40 0 41) w41,
qBin bGeq .geq s37 s41 w42,
qMov s42 w43,
gdO s43 false w44 (qFad 0 s3 w44),
gdO s43 false w45 (qLd s44 w45),
gdO s43 false w46 (qBin bEql .eql s45 (cb 2) w46),
gdO s43 false w47 (qMov s46 w47),
gdO s47 true w48 (qFad 0 s2 w48),
gdO s47 true w49 (qFad 1 s48 w49),
gdO s47 true w50 (qLd s49 w50),
gdO s47 true w51 (qFad 2 s3 w51),
gdO s47 true w52 (qLd s51 w52),
gdO s47 true w53 (seqO (r_callF 138 [s50,s52] 0 53) w53),
gdO s47 true w54 (seqO (r_un .not s53 0 54) w54),
gdO s43 false w55 (qPick s47 s54 cF w55),
qPick s43 cT s55 w56] 20)
(.cond s56 (.seq (.region [qMov (cn 16) w4] 1)
.ret)
.skip)))
(.seq (.region [qMov (cn 0) w4] 1)
.ret)))))),false⟩
def q89:QFn:=⟨2,[.t s4],
(.seq (.region [seqO (r_box s0 0 2) w2,
seqO (r_box s1 0 3) w3,
qMov cF w4] 3)
(.seq (.draw [⟨r_load 10 true s2 0 10,w10,0⟩,
⟨r_fieldAddr 1 s3 0 11,w11,0⟩,
⟨r_load 1 false s11 0 12,w12,2⟩,
⟨r_callF 139 [s10,s12] 0 13,w13,7⟩,
⟨r_load 10 true s2 0 14,w14,0⟩,
⟨r_fieldAddr 2 s3 0 15,w15,0⟩,
⟨r_load 1 false s15 0 16,w16,32⟩,
⟨r_callF 139 [s14,s16] 0 17,w17,127⟩,
⟨r_load 10 true s2 0 18,w18,0⟩,
⟨r_fieldAddr 3 s3 0 19,w19,0⟩,
⟨r_load 1 false s19 0 20,w20,512⟩,
⟨r_callF 139 [s18,s20] 0 21,w21,2047⟩,
⟨r_mov s13 0 5,w5,4095⟩,
⟨r_mov s17 0 6,w6,8191⟩,
⟨r_mov s21 0 7,w7,16383⟩] 15)
(.seq (.region [seqO (r_makeFunc 140 [s2] 0 22) w22,
qMov s22 w8] 2)
(.seq (.region [seqO (r_makeFunc 143 [s2] 0 23) w23,
qMov s23 w9] 2)
(.seq (.seq (.region [qFad 0 s3 w24,
qLd s24 w25] 2)
(.block 0 (.seq (.seq (.region [qBin bEql .eql s25 (cb 1) w27,
qMov s27 w26] 2)
(.cond s26 .skip
(.region [qBin bEql .eql s25 (cb 32) w28,
qMov s28 w26] 2)))
(.cond s26 (.seq (.region [qMov s8 w29,
qMov s5 w30,
seqO (r_buildSlice 1 1 [(.sc (.int .i64 0))] [(0,s30)] 0 31) w31,
seqO (r_callv s29 [s31] 0 32) w32,
qMov s32 w4] 5)
.ret)
(.seq (.region [qBin bEql .eql s25 (cb 2) w34,
qMov s34 w33] 2)
(.cond s33 (.seq (.region [seqO (r_load 10 true s2 0 35) w35,
qMov s5 w36,
seqO (r_buildSlice 1 1 [(.sc (.int .u8 0))] [(0,(cb 3))] 2 37) w37,
seqO (r_callF 142 [s35,s36,s37] 0 38) w38,
qMov s38 w4] 5)
.ret)
(.seq (.seq (.region [qBin bEql .eql s25 (cb 3) w40,
qMov s40 w39] 2)
(.cond s39 .skip
(.region [qBin bEql .eql s25 (cb 23) w41,
qMov s41 w39] 2)))
(.cond s39 (.seq (.region [qMov s9 w42,
qMov s5 w43,
seqO (r_callv s42 [s43] 0 44) w44,
qMov s44 w4] 4)
.ret)
(.seq (.region [qBin bEql .eql s25 (cb 5) w46,
qMov s46 w45] 2)
(.cond s45 (.seq (.region [qMov s5 w47,
qMov s6 w48,
qBin bEql .eql s47 s48 w49,
qMov s49 w4] 4)
.ret)
(.seq (.seq (.region [qBin bEql .eql s25 (cb 6) w51,
qMov s51 w50] 2)
(.cond s50 .skip
(.seq (.region [qBin bEql .eql s25 (cb 7) w52,
qMov s52 w50] 2)
(.cond s50 .skip
(.seq (.region [qBin bEql .eql s25 (cb 8) w53,
qMov s53 w50] 2)
(.cond s50 .skip
(.region [qBin bEql .eql s25 (cb 9) w54,
qMov s54 w50] 2)))))))
(.cond s50 (.seq (.region [qMov s8 w55,
qMov s5 w56,
qMov s6 w57,
qMov s7 w58,
seqO (r_buildSlice 1 3 [(.sc (.int .i64 0))] [(0,s56),(1,s57),(2,s58)] 0 59) w59,
seqO (r_callv s55 [s59] 0 60) w60,
qMov s60 w4] 7)
.ret)
(.seq (.region [qBin bEql .eql s25 (cb 10) w62,
qMov s62 w61] 2)
(.cond s61 (.seq (.region [qMov s9 w63,
qMov s5 w64,
seqO (r_callv s63 [s64] 0 65) w65,
qMov s65 w66,
gdO s66 true w67 (qMov s8 w67),
gdO s66 true w68 (qMov s6 w68),
gdO s66 true w69 (qMov s7 w69),
gdO s66 true w70 (seqO (r_buildSlice 1 2 [(.sc (.int .i64 0))] [(0,s68),(1,s69)] 0 70) w70),
gdO s66 true w71 (seqO (r_callv s67 [s70] 0 71) w71),
qPick s66 s71 cF w72,
qMov s72 w4] 11)
.ret)
(.seq (.region [qBin bEql .eql s25 (cb 11) w74,
qMov s74 w73] 2)
(.cond s73 (.seq (.region [qMov s9 w75,
qMov s5 w76,
seqO (r_callv s75 [s76] 0 77) w77,
qMov s77 w78,
gdO s78 true w79 (qMov s6 w79),
gdO s78 true w80 (qMov s7 w80),
gdO s78 true w81 (qBin bEql .eql s79 s80 w81),
qPick s78 s81 cF w82,
qMov s82 w83,
gdO s83 true w84 (seqO (r_load 10 true s2 0 84) w84),
gdO s83 true w85 (qMov s6 w85),
gdO s83 true w86 (seqO (r_buildSlice 1 3 [(.sc (.int .u8 0))] [(0,(cb 2)),(1,(cb 1)),(2,(cb 4))] 2 86) w86),
gdO s83 true w87 (seqO (r_callF 142 [s84,s85,s86] 0 87) w87),
qPick s83 s87 cF w88,
qMov s88 w4] 15)
.ret)
(.seq (.region [qBin bEql .eql s25 (cb 12) w90,
qMov s90 w89] 2)
(.cond s89 (.seq (.region [qMov s9 w91,
qMov s5 w92,
seqO (r_callv s91 [s92] 0 93) w93,
qMov s93 w94,
gdO s94 true w95 (qMov s9 w95),
gdO s94 true w96 (qMov s6 w96),
gdO s94 true w97 (seqO (r_callv s95 [s96] 0 97) w97),
qPick s94 s97 cF w98,
qMov s98 w4] 9)
.ret)
(.seq (.region [qBin bEql .eql s25 (cb 13) w100,
qMov s100 w99] 2)
(.cond s99 (.seq (.region [seqO (r_load 10 true s2 0 101) w101,
qMov s6 w102,
qFad 3 s3 w103,
qLd s103 w104,
qMov s5 w105,
seqO (r_callF 144 [s101,s102,s104,s105] 0 106) w106,
qMov s106 w4] 7)
.ret)
(.seq (.region [qBin bEql .eql s25 (cb 14) w108,
qMov s108 w107] 2)
(.cond s107 (.seq (.region [seqO (r_load 10 true s2 0 109) w109,
qMov s5 w110,
qFad 2 s3 w111,
qLd s111 w112,
qMov s7 w113,
seqO (r_callF 144 [s109,s110,s112,s113] 0 114) w114,
qMov s114 w4] 7)
.ret)
(.seq (.region [qBin bEql .eql s25 (cb 15) w116,
qMov s116 w115] 2)
(.cond s115 (.seq (.region [seqO (r_load 10 true s2 0 117) w117,
qMov s5 w118,
seqO (r_buildSlice 1 1 [(.sc (.int .u8 0))] [(0,(cb 4))] 2 119) w119,
seqO (r_callF 142 [s117,s118,s119] 0 120) w120,
qMov s120 w4] 5)
.ret)
(.seq (.region [qBin bEql .eql s25 (cb 16) w122,
qMov s122 w121] 2)
(.cond s121 (.seq (.region [seqO (r_load 10 true s2 0 123) w123,
qMov s6 w124,
qMov s5 w125,
seqO (r_buildSlice 1 1 [(.sc (.int .u8 0))] [(0,(cb 4))] 2 126) w126,
seqO (r_callF 145 [s123,s124,s125,s126] 0 127) w127,
qMov s127 w4] 6)
.ret)
(.seq (.region [qBin bEql .eql s25 (cb 17) w129,
qMov s129 w128] 2)
(.cond s128 (.seq (.region [seqO (r_load 10 true s2 0 130) w130,
qMov s5 w131,
qMov s6 w132,
seqO (r_buildSlice 1 1 [(.sc (.int .u8 0))] [(0,(cb 4))] 2 133) w133,
seqO (r_callF 145 [s130,s131,s132,s133] 0 134) w134,
qMov s134 w4] 6)
.ret)
(.seq (.region [qBin bEql .eql s25 (cb 18) w136,
qMov s136 w135] 2)
(.cond s135 (.seq (.region [seqO (r_load 10 true s2 0 137) w137,
qMov s5 w138,
seqO (r_buildSlice 1 1 [(.sc (.int .u8 0))] [(0,(cb 7))] 2 139) w139,
seqO (r_callF 142 [s137,s138,s139] 0 140) w140,
qMov s140 w141,
gdO s141 true w142 (qMov s8 w142),
gdO s141 true w143 (qMov s6 w143),
gdO s141 true w144 (seqO (r_buildSlice 1 1 [(.sc (.int .i64 0))] [(0,s143)] 0 144) w144),
gdO s141 true w145 (seqO (r_callv s142 [s144] 0 145) w145),
qPick s141 s145 cF w146,
qMov s146 w4] 11)
.ret)
(.seq (.region [qBin bEql .eql s25 (cb 19) w148,
qMov s148 w147] 2)
(.cond s147 (.seq (.region [seqO (r_load 10 true s2 0 149) w149,
qMov s6 w150,
qMov s5 w151,
seqO (r_buildSlice 1 2 [(.sc (.int .u8 0))] [(0,(cb 7)),(1,(cb 6))] 2 152) w152,
seqO (r_callF 145 [s149,s150,s151,s152] 0 153) w153,
qMov s153 w154,
gdO s154 true w155 (qMov s8 w155),
gdO s154 true w156 (qMov s7 w156),
gdO s154 true w157 (seqO (r_buildSlice 1 1 [(.sc (.int .i64 0))] [(0,s156)] 0 157) w157),
gdO s154 true w158 (seqO (r_callv s155 [s157] 0 158) w158),
qPick s154 s158 cF w159,
qMov s159 w4] 12)
.ret)
(.seq (.region [qBin bEql .eql s25 (cb 20) w161,
qMov s161 w160] 2)
(.cond s160 (.seq (.region [seqO (r_load 10 true s2 0 162) w162,
qMov s5 w163,
qMov s7 w164,
seqO (r_buildSlice 1 2 [(.sc (.int .u8 0))] [(0,(cb 7)),(1,(cb 6))] 2 165) w165,
seqO (r_callF 145 [s162,s163,s164,s165] 0 166) w166,
qMov s166 w167,
gdO s167 true w168 (qMov s8 w168),
gdO s167 true w169 (qMov s6 w169),
gdO s167 true w170 (seqO (r_buildSlice 1 1 [(.sc (.int .i64 0))] [(0,s169)] 0 170) w170),
gdO s167 true w171 (seqO (r_callv s168 [s170] 0 171) w171),
qPick s167 s171 cF w172,
qMov s172 w4] 12)
.ret)
(.seq (.region [qBin bEql .eql s25 (cb 21) w174,
qMov s174 w173] 2)
(.cond s173 (.seq (.region [qMov s8 w175,
qMov s5 w176,
seqO (r_buildSlice 1 1 [(.sc (.int .i64 0))] [(0,s176)] 0 177) w177,
seqO (r_callv s175 [s177] 0 178) w178,
qMov s178 w179,
gdO s179 true w180 (seqO (r_load 10 true s2 0 180) w180),
gdO s179 true w181 (qMov s6 w181),
gdO s179 true w182 (seqO (r_buildSlice 1 3 [(.sc (.int .u8 0))] [(0,(cb 3)),(1,(cb 7)),(2,(cb 6))] 2 182) w182),
gdO s179 true w183 (seqO (r_callF 142 [s180,s181,s182] 0 183) w183),
qPick s179 s183 cF w184,
qMov s184 w4] 11)
.ret)
(.seq (.region [qBin bEql .eql s25 (cb 25) w186,
qMov s186 w185] 2)
(.cond s185 (.seq (.region [qFad 1 s3 w187,
qLd s187 w188,
qBin bLss .lss s188 (cn 0) w189,
qMov s189 w190,
gdO s190 false w191 (qFad 0 s2 w191),
gdO s190 false w192 (qFad 2 s191 w192),
gdO s190 false w193 (qLd s192 w193),
gdO s190 false w194 (qFad 2 s3 w194),
gdO s190 false w195 (qLd s194 w195),
gdO s190 false w196 (seqO (r_indexAddr 7 s193 s195 0 196) w196),
gdO s190 false w197 (qFad 2 s196 w197),
gdO s190 false w198 (qLd s197 w198),
gdO s190 false w199 (qMov s5 w199),
gdO s190 false w200 (qBin bEql .eql s198 s199 w200),
qPick s190 cT s200 w201,
qMov s201 w4] 16)
.ret)
(.seq (.seq (.region [qBin bEql .eql s25 (cb 26) w203,
qMov s203 w202] 2)
(.cond s202 .skip
(.region [qBin bEql .eql s25 (cb 27) w204,
qMov s204 w202] 2)))
(.cond s202 (.seq (.draw [⟨r_load 10 true s2 0 205,w205,0⟩,
⟨r_fieldAddr 0 s2 0 206,w206,0⟩,
⟨r_fieldAddr 2 s206 0 207,w207,2⟩,
⟨r_load 1 false s207 0 208,w208,6⟩,
⟨r_fieldAddr 1 s3 0 209,w209,0⟩,
⟨r_load 1 false s209 0 210,w210,16⟩,
⟨r_indexAddr 7 s208 s210 0 211,w211,62⟩,
⟨r_load 7 true s211 0 212,w212,126⟩,
⟨r_callF 146 [s205,s212] 0 213,w213,255⟩,
⟨r_mov s213 0 4,w4,511⟩] 10)
.ret)
(.seq (.region [qBin bEql .eql s25 (cb 28) w215,
qMov s215 w214] 2)
(.cond s214 (.seq (.region [seqO (r_load 10 true s2 0 216) w216,
qMov s5 w217,
seqO (r_buildSlice 1 3 [(.sc (.int .u8 0))] [(0,(cb 2)),(1,(cb 1)),(2,(cb 3))] 2 218) w218,
seqO (r_callF 142 [s216,s217,s218] 0 219) w219,
qMov s219 w4] 5)
.ret)
(.seq (.seq (.region [qBin bEql .eql s25 (cb 29) w221,
qMov s221 w220] 2)
(.cond s220 .skip
(.region [qBin bEql .eql s25 (cb 33) w222,
qMov s222 w220] 2)))
(.cond s220 (.seq (.region [qMov s9 w223,
qMov s5 w224,
seqO (r_callv s223 [s224] 0 225) w225,
qMov s225 w226,
gdO s226 true w227 (qMov s8 w227),
gdO s226 true w228 (qMov s6 w228),
gdO s226 true w229 (seqO (r_buildSlice 1 1 [(.sc (.int .i64 0))] [(0,s228)] 0 229) w229),
gdO s226 true w230 (seqO (r_callv s227 [s229] 0 230) w230),
qPick s226 s230 cF w231,
qMov s231 w4] 10)
.ret)
(.seq (.region [qBin bEql .eql s25 (cb 34) w233,
qMov s233 w232] 2)
(.cond s232 (.seq (.region [qFad 1 s3 w234,
qLd s234 w235,
qBin bLss .lss s235 (cn 0) w236,
qMov s236 w237,
gdO s237 false w238 (qFad 3 s2 w238),
gdO s237 false w239 (qFad 2 s238 w239),
gdO s237 false w240 (qLd s239 w240),
gdO s237 false w241 (qMov s5 w241),
gdO s237 false w242 (qBin bEql .eql s240 s241 w242),
qPick s237 cT s242 w243,
qMov s243 w4] 11)
.ret)
.skip))))))))))))))))))))))))))))))))))))))))))))))
(.seq (.region [qMov cT w4] 1)
.ret)))))),false⟩
def q90:QFn:=⟨1,[.t s2,.t s3],
(.seq (.region [seqO (r_box s0 0 1) w1,
qMov (cK (.own [] .full)) w2,
qMov cF w3] 3)
(.seq (.region [qFad 3 s1 w20,
qFad 4 s20 w21,
qLd s21 w22,
qMov s22 w4] 4)
(.seq (.draw [⟨r_mov s4 0 23,w23,0⟩,
⟨r_len s23 0 24,w24,1⟩,
⟨r_makeSlice 1 24 [(.sl [])] s24 s24 1 25,w25,3⟩,
⟨r_mov s4 0 26,w26,0⟩,
⟨r_len s26 0 27,w27,8⟩,
⟨r_makeSlice 1 1 [(.sc (.bool false))] s27 s27 1 28,w28,24⟩,
⟨r_mov s25 0 5,w5,7⟩,
⟨r_mov s28 0 6,w6,127⟩] 8)
(.seq (.region [qMov s6 w29,
seqO (r_indexAddr 1 s29 (cn 0) 0 30) w30,
seqO (r_store 1 s30 cT 0 0) wN] 3)
(.seq (.seq (.region [seqO (r_buildSlice 1 1 [(.sc (.int .i64 0))] [(0,(cn 0))] 1 31) w31,
qMov s31 w7] 2)
(.block 0 (.loop (.seq (.seq (.region [qMov s7 w32,
seqO (r_len s32 0 33) w33,
qBin bGtr .gtr s33 (cn 0) w34] 3)
(.cond s34 .skip
(.exit 0)))
(.block 1 (.seq (.region [qMov s7 w35,
qMov s7 w36,
seqO (r_len s36 0 37) w37,
qBin bSub .sub s37 (cn 1) w38,
seqO (r_indexAddr 1 s35 s38 0 39) w39,
qLd s39 w40,
qMov s40 w8] 7)
(.seq (.region [qMov s7 w41,
qMov s7 w42,
seqO (r_len s42 0 43) w43,
qBin bSub .sub s43 (cn 1) w44,
seqO (r_slice 1 s41 none (some s44) none 3 45) w45,
qMov s45 w7] 6)
(.seq (.draw [⟨r_load 10 true s1 0 47,w47,0⟩,
⟨r_mov s4 0 48,w48,0⟩,
⟨r_mov s8 0 49,w49,0⟩,
⟨r_indexAddr 4 s48 s49 0 50,w50,6⟩,
⟨r_load 4 true s50 0 51,w51,14⟩,
⟨r_mov s5 0 52,w52,0⟩,
⟨r_mov s8 0 53,w53,0⟩,
⟨r_indexAddr 1 s52 s53 0 54,w54,96⟩,
⟨r_load 1 false s54 0 55,w55,224⟩,
⟨r_call 147 [s47,s51,s55] 0 56,w56,511⟩,
⟨r_mov s56 0 46,w46,1023⟩,
⟨r_extract s46 0 0 57,w57,2047⟩,
⟨r_extract s46 1 0 58,w58,2047⟩,
⟨r_mov s57 0 9,w9,4095⟩,
⟨r_mov s58 0 10,w10,16383⟩] 15)
(.seq (.region [qMov s4 w60,
qMov s8 w61,
seqO (r_call 148 [s60,s61] 0 62) w62,
qMov s62 w59,
seqO (r_extract s59 0 0 63) w63,
seqO (r_extract s59 1 0 64) w64,
qMov s63 w11,
qMov s64 w12] 8)
(.seq (.seq (.region [qMov s10 w65,
seqO (r_un .not s65 0 66) w66,
qMov s66 w67,
gdO s67 false w68 (qMov s12 w68),
gdO s67 false w69 (qBin bNeq .neq s68 (cn 0) w69),
qPick s67 cT s69 w70] 6)
(.cond s70 (.seq (.region [qMov (cK (.own [] .full)) w2,
qMov cF w3] 2)
.ret)
.skip))
(.seq (.region [qMov s11 w71,
seqO (r_len s71 0 72) w72,
qMov (cn 0) w73] 3)
(.block 2 (.loop (.seq (.region [qBin bLss .lss s73 s72 w74] 1)
(.seq (.cond s74 .skip
(.exit 2))
(.seq (.block 3 (.seq (.region [seqO (r_indexAddr 1 s71 s73 0 75) w75,
qLd s75 w76,
qMov s76 w14] 3)
(.block 4 (.seq (.region [qMov s6 w78,
qMov s14 w79,
seqO (r_indexAddr 1 s78 s79 0 80) w80,
qLd s80 w81,
seqO (r_un .not s81 0 82) w82,
qMov s82 w77] 6)
(.cond s77 (.region [qMov s5 w83,
qMov s14 w84,
qMov s6 w85,
qMov s14 w86,
qMov s9 w87,
qMov s7 w88,
qMov s14 w89,
seqO (r_buildSlice 1 1 [(.sc (.int .i64 0))] [(0,s89)] 0 90) w90,
seqO (r_append 1 8 s88 s90 1 91) w91,
seqO (r_indexAddr 1 s83 s84 0 92) w92,
seqO (r_store 1 s92 s87 0 0) wN,
seqO (r_indexAddr 1 s85 s86 0 93) w93,
seqO (r_store 1 s93 cT 0 0) wN,
qMov s91 w7] 14)
(.seq (.region [qMov s5 w95,
qMov s14 w96,
seqO (r_indexAddr 1 s95 s96 0 97) w97,
qLd s97 w98,
qMov s9 w99,
seqO (r_callF 149 [s98,s99] 0 100) w100,
seqO (r_un .not s100 0 101) w101,
qMov s101 w94] 8)
(.cond s94 (.seq (.region [qMov (cK (.own [] .full)) w2,
qMov cF w3] 2)
.ret)
.skip)))))))
(.region [qBin bAdd .add s73 (cn 1) w102,
qMov s102 w73] 2)))))))))))))))))
(.seq (.region [qMov s4 w103,
seqO (r_len s103 0 104) w104,
seqO (r_makeSlice 1 8 [(.sc (.int .u64 0))] s104 s104 1 105) w105,
qMov s105 w15] 4)
(.seq (.seq (.region [qMov s5 w106,
seqO (r_len s106 0 107) w107,
qMov (cn 0) w108] 3)
(.block 5 (.loop (.seq (.region [qBin bLss .lss s108 s107 w109] 1)
(.seq (.cond s109 .skip
(.exit 5))
(.seq (.block 6 (.seq (.region [qMov s108 w110,
seqO (r_indexAddr 1 s106 s108 0 111) w111,
qLd s111 w112,
qMov s110 w16,
qMov s112 w17] 5)
(.seq (.region [seqO (r_load 10 true s1 0 114) w114,
qMov s17 w115,
seqO (r_callF 150 [s114,s115] 0 116) w116,
qMov s116 w113,
seqO (r_extract s113 0 0 117) w117,
seqO (r_extract s113 1 0 118) w118,
qMov s117 w18,
qMov s118 w19] 8)
(.seq (.seq (.region [qMov s19 w119,
qBin bNeq .neq s119 (cn 0) w120] 2)
(.cond s120 (.seq (.region [qMov (cK (.own [] .full)) w2,
qMov cF w3] 2)
.ret)
.skip))
(.region [qMov s15 w121,
qMov s16 w122,
qMov s18 w123,
seqO (r_conv .u64 s123 0 124) w124,
seqO (r_indexAddr 1 s121 s122 0 125) w125,
seqO (r_store 1 s125 s124 0 0) wN] 6)))))
(.region [qBin bAdd .add s108 (cn 1) w126,
qMov s126 w108] 2)))))))
(.seq (.draw [⟨r_mov s15 0 127,w127,0⟩,
⟨r_mov s5 0 128,w128,0⟩,
⟨r_mov s4 0 129,w129,0⟩,
⟨r_len s129 0 130,w130,4⟩,
⟨r_bin .sub s130 (cn 1) 0 131,w131,12⟩,
⟨r_indexAddr 1 s128 s131 0 132,w132,30⟩,
⟨r_load 1 false s132 0 133,w133,62⟩,
⟨r_len s133 0 134,w134,126⟩,
⟨r_bin .eql s134 (cn 0) 0 135,w135,254⟩,
⟨r_mov s127 0 2,w2,1⟩,
⟨r_mov s135 0 3,w3,1023⟩] 11)
.ret)))))))),false⟩
def q91:QFn:=⟨3,[.t s6,.t s7],
(.seq (.region [seqO (r_box s1 0 4) w4,
qMov (cK (.own [] .full)) w6,
qMov (cn 0) w7] 3)
(.seq (.seq (.region [qMov s0 w17,
seqO (r_callF 133 [s17] 0 18) w18,
qMov s18 w8] 3)
(.seq (.region [qMov s8 w19,
qBin bNeq .neq s19 (cn 0) w20] 2)
(.cond s20 (.seq (.region [qMov s8 w21,
qMov (cK (.own [] .full)) w6,
qMov s21 w7] 3)
.ret)
.skip)))
(.seq (.seq (.region [qMov s2 w22,
qBin bLss .lss s22 (cn 0) w23,
qMov s23 w24,
gdO s24 false w25 (qMov s2 w25),
gdO s24 false w26 (qBin bGtr .gtr s25 (cn 16) w26),
qPick s24 cT s26 w27,
qMov s27 w28,
gdO s28 false w29 (qLd s4 w29),
gdO s28 false w30 (qBin bLss .lss s29 (cn 0) w30),
qPick s28 cT s30 w31,
qMov s31 w32,
gdO s32 false w33 (qLd s4 w33),
gdO s32 false w34 (qMov s2 w34),
gdO s32 false w35 (qBin bGtr .gtr s33 s34 w35),
qPick s32 cT s35 w36] 15)
(.cond s36 (.seq (.region [qMov (cK (.own [] .full)) w6,
qMov (cn 2) w7] 2)
.ret)
.skip))
(.seq (.region [qMov s0 w37,
seqO (r_len s37 0 38) w38,
seqO (r_makeSlice 1 8 [(.sc (.int .u64 0))] s38 s38 1 39) w39,
seqO (r_alloc [(.own [] .full)] 0 9) w9,
seqO (r_store 1 s9 s39 0 0) wN] 5)
(.seq (.seq (.region [qMov s0 w40,
seqO (r_len s40 0 41) w41,
qMov (cn 0) w42] 3)
(.block 0 (.loop (.seq (.region [qBin bLss .lss s42 s41 w43] 1)
(.seq (.cond s43 .skip
(.exit 0))
(.seq (.block 1 (.seq (.region [qMov s42 w44,
seqO (r_indexAddr 4 s40 s42 0 45) w45,
seqO (r_load 4 true s45 0 46) w46,
seqO (r_alloc [(.d (.sc (.int .u8 0))),(.d (.sc (.int .i64 0))),(.d (.sc (.int .i64 0))),(.d (.sc (.int .i64 0)))] 0 11) w11,
qMov s44 w10,
seqO (r_store 4 s11 s46 0 0) wN] 6)
(.seq (.region [seqO (r_load 4 true s11 0 48) w48,
seqO (r_call 92 [s48] 0 49) w49,
qMov s49 w47,
seqO (r_extract s47 0 0 50) w50,
seqO (r_extract s47 1 0 51) w51,
seqO (r_extract s47 2 0 52) w52,
qMov s50 w12,
qMov s51 w13,
qMov s52 w14] 9)
(.seq (.seq (.region [qMov s14 w53,
qBin bNeq .neq s53 (cn 0) w54] 2)
(.cond s54 (.seq (.region [qMov s14 w55,
qMov (cK (.own [] .full)) w6,
qMov s55 w7] 3)
.ret)
.skip))
(.seq (.draw [⟨r_load 1 false s9 0 56,w56,0⟩,
⟨r_mov s10 0 57,w57,0⟩,
⟨r_mov s13 0 58,w58,0⟩,
⟨r_callF 151 [s58] 0 59,w59,4⟩,
⟨r_indexAddr 1 s56 s57 0 60,w60,15⟩,
⟨r_store 1 s60 s59 0 0,wN,31⟩] 6)
(.seq (.draw [⟨r_mov s12 0 61,w61,0⟩,
⟨r_callF 151 [s61] 0 62,w62,1⟩,
⟨r_load 1 false s9 0 63,w63,0⟩,
⟨r_mov s10 0 64,w64,0⟩,
⟨r_indexAddr 1 s63 s64 0 65,w65,12⟩,
⟨r_load 1 false s65 0 66,w66,28⟩,
⟨r_bin .or s62 s66 0 67,w67,63⟩,
⟨r_mov s2 0 68,w68,0⟩,
⟨r_bin .shr s67 s68 0 69,w69,255⟩,
⟨r_bin .neq s69 (cu 0) 0 70,w70,511⟩] 10)
(.cond s70 (.seq (.region [qMov (cK (.own [] .full)) w6,
qMov (cn 16) w7] 2)
.ret)
.skip)))))))
(.region [qBin bAdd .add s42 (cn 1) w71,
qMov s71 w42] 2)))))))
(.seq (.draw [⟨r_mov s0 0 72,w72,0⟩,
⟨r_len s72 0 73,w73,1⟩,
⟨r_makeSlice 1 8 [(.sc (.int .u64 0))] s73 s73 1 74,w74,3⟩,
⟨r_mov s0 0 75,w75,0⟩,
⟨r_len s75 0 76,w76,8⟩,
⟨r_makeSlice 1 1 [(.sc (.bool false))] s76 s76 0 77,w77,24⟩,
⟨r_alloc [(.own [] .full)] 0 15,w15,0⟩,
⟨r_alloc [(.own [] .full)] 0 16,w16,0⟩,
⟨r_store 1 s15 s74 0 0,wN,199⟩,
⟨r_store 1 s16 s77 0 0,wN,511⟩] 10)
(.seq (.region [qMov s0 w78,
seqO (r_makeFunc 152 [s4,s16,s15,s9] 0 79) w79,
seqO (r_callF 134 [s78,s79] 0 80) w80] 3)
(.seq (.region [qLd s15 w81,
qLd s15 w82,
seqO (r_len s82 0 83) w83,
qBin bSub .sub s83 (cn 1) w84,
seqO (r_indexAddr 1 s81 s84 0 85) w85,
seqO (r_store 1 s85 (cu 0) 0 0) wN] 6)
(.seq (.region [qLd s15 w86,
qMov s86 w6,
qMov (cn 0) w7] 3)
.ret))))))))),false⟩
def q92:QFn:=⟨1,[.t s2,.t s3,.t s4],
(.seq (.region [seqO (r_box s0 0 1) w1,
seqO (r_mov (cK (.own [] .full)) 65540 2) w2,
qMov (cK (.own [] .full)) w3,
qMov (cn 0) w4] 4)
(.seq (.seq (.region [seqO (r_load 4 true s1 0 10) w10,
seqO (r_callF 153 [s10] 0 11) w11,
qMov s11 w5] 3)
(.seq (.region [qMov s5 w12,
qBin bNeq .neq s12 (cn 0) w13] 2)
(.cond s13 (.seq (.region [qMov s5 w14,
seqO (r_mov (cK (.own [] .full)) 65540 2) w2,
qMov (cK (.own [] .full)) w3,
qMov s14 w4] 4)
.ret)
.skip)))
(.seq (.region [qFad 0 s1 w16,
qLd s16 w17,
seqO (r_callF 154 [s17] 0 18) w18,
qMov s18 w15,
seqO (r_extract s15 0 0 19) w19,
seqO (r_extract s15 1 0 20) w20,
seqO (r_alloc [(.d (.sc (.int .i64 0))),(.d (.sc (.int .i64 0))),(.d (.sc (.bool false))),(.d (.sc (.bool false))),(.d (.sc (.int .i64 0))),(.d (.sc (.int .i64 0))),(.d (.sc (.bool false))),(.d (.sc (.bool false))),(.d (.sc (.int .i64 0))),(.d (.sc (.int .i64 0))),(.d (.sc (.bool false))),(.d (.sc (.bool false)))] 0 6) w6,
seqO (r_store 12 s6 s19 0 0) wN,
qMov s20 w7] 9)
(.seq (.seq (.region [seqO (r_load 4 true s1 0 21) w21,
seqO (r_callF 155 [s21] 0 22) w22,
qMov (cn 0) w23] 3)
(.block 0 (.loop (.seq (.region [qBin bLss .lss s23 (cn 3) w24] 1)
(.seq (.cond s24 .skip
(.exit 0))
(.seq (.block 1 (.seq (.region [qMov s23 w25,
seqO (r_indexA 3 1 false s22 s23 0 26) w26,
qMov s25 w8,
qMov s26 w9] 4)
(.seq (.seq (.region [qMov s8 w27,
seqO (r_indexArr 3 4 s6 s27 0 28) w28,
qFad 2 s28 w29,
qLd s29 w30,
qMov s30 w31,
gdO s31 true w32 (qMov s9 w32),
gdO s31 true w33 (qBin bGeq .geq s32 (cn 0) w33),
qPick s31 s33 cF w34] 8)
(.cond s34 (.region [qMov s2 w35,
qMov s9 w36,
seqO (r_buildSlice 1 1 [(.sc (.int .i64 0))] [(0,s36)] 0 37) w37,
seqO (r_append 1 8 s35 s37 1 38) w38,
seqO (r_mov s38 65540 2) w2] 5)
.skip))
(.seq (.region [qMov s8 w39,
seqO (r_indexArr 3 4 s6 s39 0 40) w40,
qFad 3 s40 w41,
qLd s41 w42,
qMov s42 w43,
gdO s43 true w44 (qMov s9 w44),
gdO s43 true w45 (qBin bGeq .geq s44 (cn 0) w45),
qPick s43 s45 cF w46] 8)
(.cond s46 (.region [qMov s3 w47,
qMov s9 w48,
seqO (r_buildSlice 1 1 [(.sc (.int .i64 0))] [(0,s48)] 0 49) w49,
seqO (r_append 1 8 s47 s49 0 50) w50,
qMov s50 w3] 5)
.skip)))))
(.region [qBin bAdd .add s23 (cn 1) w51,
qMov s51 w23] 2)))))))
(.seq (.region [qMov s2 w52,
qMov s3 w53,
seqO (r_mov s52 65540 2) w2,
qMov s53 w3,
qMov (cn 0) w4] 5)
.ret))))),false⟩
def q93:QFn:=⟨1,[.t s2,.t s3],
(.seq (.region [qMov (cK (.own [] .full)) w2,
qMov (cn 0) w3] 2)
(.seq (.seq (.region [qMov s0 w7,
seqO (r_len s7 0 8) w8,
seqO (r_callF 156 [s8] 0 9) w9,
qMov s9 w4] 4)
(.seq (.region [qMov s4 w10,
qBin bNeq .neq s10 (cn 0) w11] 2)
(.cond s11 (.seq (.region [qMov s4 w12,
qMov (cK (.own [] .full)) w2,
qMov s12 w3] 3)
.ret)
.skip)))
(.seq (.region [qMov (cK (.own [] .full)) w5] 1)
(.seq (.seq (.region [qMov s0 w13,
seqO (r_len s13 0 14) w14,
qMov (cn 0) w15] 3)
(.block 0 (.loop (.seq (.region [qBin bLss .lss s15 s14 w16] 1)
(.seq (.cond s16 .skip
(.exit 0))
(.seq (.block 1 (.seq (.region [qMov s15 w17,
qMov s17 w6] 2)
(.seq (.seq (.draw [⟨r_mov s6 0 18,w18,0⟩,
⟨r_bin .gtr s18 (cn 0) 0 19,w19,1⟩,
⟨r_mov s19 0 20,w20,3⟩,
⟨gdR s20 true (r_mov s0 0 21),w21,7⟩,
⟨gdR s20 true (r_mov s6 0 22),w22,7⟩,
⟨gdR s20 true (r_indexAddr 1 s21 s22 0 23),w23,31⟩,
⟨gdR s20 true (r_load 1 false s23 0 24),w24,63⟩,
⟨gdR s20 true (r_mov s0 0 25),w25,7⟩,
⟨gdR s20 true (r_mov s6 0 26),w26,7⟩,
⟨gdR s20 true (r_bin .sub s26 (cn 1) 0 27),w27,263⟩,
⟨gdR s20 true (r_indexAddr 1 s25 s27 0 28),w28,903⟩,
⟨gdR s20 true (r_load 1 false s28 0 29),w29,1927⟩,
⟨gdR s20 true (r_bin .eql s24 s29 0 30),w30,4095⟩,
⟨r_pick s20 s30 cF 0 31,w31,8191⟩] 14)
(.cond s31 (.exit 1)
.skip))
(.region [qMov s5 w32,
qMov s6 w33,
qMov s0 w34,
qMov s6 w35,
seqO (r_indexAddr 1 s34 s35 0 36) w36,
qLd s36 w37,
seqO (r_build [(.d (.sc (.int .i64 0))),(.d (.sc (.int .u64 0)))] [(0,1,s33),(1,1,s37)] 0 38) w38,
seqO (r_buildSlice 2 1 [(.sc (.int .i64 0)),(.sc (.int .u64 0))] [(0,s38)] 0 39) w39,
seqO (r_append 2 16 s32 s39 0 40) w40,
qMov s40 w5] 10))))
(.region [qBin bAdd .add s15 (cn 1) w41,
qMov s41 w15] 2)))))))
(.seq (.region [qMov s5 w42,
qMov s42 w2,
qMov (cn 0) w3] 3)
.ret))))),false⟩
def q94:QFn:=⟨1,[.t s2],
(.seq (.region [qMov (cn 0) w2] 1)
(.seq (.seq (.region [qMov s0 w6,
seqO (r_len s6 0 7) w7,
qBin bGtr .gtr s7 (cn 32) w8] 3)
(.cond s8 (.seq (.region [qMov (cn 8) w2] 1)
.ret)
.skip))
(.seq (.seq (.region [qMov s0 w9,
seqO (r_len s9 0 10) w10,
qMov (cn 0) w11] 3)
(.block 0 (.loop (.seq (.region [qBin bLss .lss s11 s10 w12] 1)
(.seq (.cond s12 .skip
(.exit 0))
(.seq (.block 1 (.seq (.region [qMov s11 w13,
qMov s13 w3] 2)
(.seq (.region [qMov s0 w14,
qMov s3 w15,
seqO (r_callF 157 [s14,s15] 0 16) w16,
seqO (r_un .not s16 0 17) w17] 4)
(.cond s17 (.seq (.region [qMov (cn 8) w2] 1)
.ret)
.skip))))
(.region [qBin bAdd .add s11 (cn 1) w18,
qMov s18 w11] 2)))))))
(.seq (.seq (.region [qMov s0 w19,
seqO (r_call 158 [s19] 0 20) w20,
seqO (r_len s20 0 21) w21,
qMov (cn 0) w22] 4)
(.block 2 (.loop (.seq (.region [qBin bLss .lss s22 s21 w23] 1)
(.seq (.cond s23 .skip
(.exit 2))
(.seq (.block 3 (.seq (.region [seqO (r_indexAddr 1 s20 s22 0 24) w24,
qLd s24 w25,
qMov s25 w5] 3)
(.seq (.region [qMov s5 w26,
qBin bGtr .gtr s26 (cn 5000) w27] 2)
(.cond s27 (.seq (.region [qMov (cn 8) w2] 1)
.ret)
.skip))))
(.region [qBin bAdd .add s22 (cn 1) w28,
qMov s28 w22] 2)))))))
(.seq (.region [qMov (cn 0) w2] 1)
.ret))))),false⟩
def q95:QFn:=⟨2,[.t s4,.t s5,.t s6],
(.seq (.region [qMov (cn 0) w4,
qMov (cn 0) w5,
qMov (cn 0) w6] 3)
(.seq (.region [qMov s0 w9,
qMov s1 w10,
seqO (r_call 159 [s9,s10] 0 11) w11,
qMov s11 w8,
seqO (r_extract s8 0 0 12) w12,
seqO (r_extract s8 1 0 13) w13,
qMov s12 w7,
qMov s13 w6] 8)
(.seq (.seq (.region [qMov s6 w14,
qBin bNeq .neq s14 (cn 0) w15] 2)
(.cond s15 (.seq (.region [qMov s6 w16,
qMov (cn 0) w4,
qMov (cn 0) w5,
qMov s16 w6] 4)
.ret)
.skip))
(.seq (.draw [⟨r_mov s7 0 17,w17,0⟩,
⟨r_mov s1 0 18,w18,0⟩,
⟨r_indexAddr 2 s17 s18 0 19,w19,3⟩,
⟨r_fieldAddr 0 s19 0 20,w20,7⟩,
⟨r_load 1 false s20 0 21,w21,15⟩,
⟨r_mov s7 0 22,w22,0⟩,
⟨r_mov s1 0 23,w23,0⟩,
⟨r_indexAddr 2 s22 s23 0 24,w24,96⟩,
⟨r_fieldAddr 1 s24 0 25,w25,224⟩,
⟨r_load 1 false s25 0 26,w26,480⟩,
⟨r_mov s21 0 4,w4,31⟩,
⟨r_mov s26 0 5,w5,2047⟩,
⟨r_mov (cn 0) 0 6,w6,4095⟩] 13)
.ret)))),false⟩
def q96:QFn:=⟨2,[.t s4],
(.seq (.region [seqO (r_box s1 0 3) w3,
qMov cF w4] 2)
(.seq (.seq (.region [qFad 0 s3 w9,
qLd s9 w10,
seqO (r_callF 160 [s10] 0 11) w11,
seqO (r_un .not s11 0 12) w12,
qMov s12 w13,
gdO s13 false w14 (qFad 3 s3 w14),
gdO s13 false w15 (qLd s14 w15),
gdO s13 false w16 (seqO (r_len s15 0 16) w16),
gdO s13 false w17 (qBin bGtr .gtr s16 (cn 16) w17),
qPick s13 cT s17 w18,
qMov s18 w19,
gdO s19 false w20 (qFad 3 s3 w20),
gdO s19 false w21 (qLd s20 w21),
gdO s19 false w22 (seqO (r_callF 161 [s21] 0 22) w22),
gdO s19 false w23 (seqO (r_un .not s22 0 23) w23),
qPick s19 cT s23 w24,
qMov s24 w25,
gdO s25 false w26 (qFad 1 s3 w26),
gdO s25 false w27 (qLd s26 w27),
gdO s25 false w28 (qBin bLss .lss s27 (cn 0) w28),
qPick s25 cT s28 w29,
qMov s29 w30,
gdO s30 false w31 (qFad 1 s3 w31),
gdO s30 false w32 (qLd s31 w32),
gdO s30 false w33 (qFad 3 s3 w33),
gdO s30 false w34 (qLd s33 w34),
gdO s30 false w35 (seqO (r_len s34 0 35) w35),
gdO s30 false w36 (qBin bGtr .gtr s32 s35 w36),
qPick s30 cT s36 w37,
qMov s37 w38,
gdO s38 false w39 (qFad 2 s3 w39),
gdO s38 false w40 (qLd s39 w40),
gdO s38 false w41 (qBin bLss .lss s40 (cm 0) w41),
qPick s38 cT s41 w42,
qMov s42 w43,
gdO s43 false w44 (qFad 2 s3 w44),
gdO s43 false w45 (qLd s44 w45),
gdO s43 false w46 (qMov s0 w46),
gdO s43 false w47 (seqO (r_len s46 0 47) w47),
gdO s43 false w48 (qBin bGeq .geq s45 s47 w48),
qPick s43 cT s48 w49] 41)
(.cond s49 (.seq (.region [qMov cF w4] 1)
.ret)
.skip))
(.seq (.seq (.region [qFad 3 s3 w50,
qLd s50 w51,
seqO (r_len s51 0 52) w52,
qMov (cn 0) w53] 4)
(.block 0 (.loop (.seq (.region [qBin bLss .lss s53 s52 w54] 1)
(.seq (.cond s54 .skip
(.exit 0))
(.seq (.block 1 (.seq (.region [seqO (r_indexAddr 2 s51 s53 0 55) w55,
seqO (r_load 2 true s55 0 56) w56,
seqO (r_alloc [(.d (.sc (.string ⟨#[]⟩))),(.d (.sc (.int .i64 0)))] 0 6) w6,
seqO (r_store 2 s6 s56 0 0) wN] 4)
(.seq (.region [qFad 1 s6 w57,
qLd s57 w58,
qBin bLss .lss s58 (cn 0) w59,
qMov s59 w60,
gdO s60 false w61 (qFad 1 s6 w61),
gdO s60 false w62 (qLd s61 w62),
gdO s60 false w63 (qMov s0 w63),
gdO s60 false w64 (seqO (r_len s63 0 64) w64),
gdO s60 false w65 (qBin bGeq .geq s62 s64 w65),
qPick s60 cT s65 w66] 10)
(.cond s66 (.seq (.region [qMov cF w4] 1)
.ret)
.skip))))
(.region [qBin bAdd .add s53 (cn 1) w67,
qMov s67 w53] 2)))))))
(.seq (.seq (.region [qFad 4 s3 w68,
qLd s68 w69,
seqO (r_len s69 0 70) w70,
qMov (cn 0) w71] 4)
(.block 2 (.loop (.seq (.region [qBin bLss .lss s71 s70 w72] 1)
(.seq (.cond s72 .skip
(.exit 2))
(.seq (.block 3 (.seq (.region [seqO (r_indexAddr 4 s69 s71 0 73) w73,
seqO (r_load 4 true s73 0 74) w74,
seqO (r_alloc [(.d (.sc (.int .u8 0))),(.d (.sc (.int .i64 0))),(.d (.sc (.int .i64 0))),(.d (.sc (.int .i64 0)))] 0 8) w8,
seqO (r_store 4 s8 s74 0 0) wN] 4)
(.seq (.region [seqO (r_load 4 true s8 0 75) w75,
seqO (r_callF 153 [s75] 0 76) w76,
qBin bNeq .neq s76 (cn 0) w77] 3)
(.cond s77 (.seq (.region [qMov cF w4] 1)
.ret)
.skip))))
(.region [qBin bAdd .add s71 (cn 1) w78,
qMov s78 w71] 2)))))))
(.seq (.region [qFad 5 s3 w79,
qLd s79 w80,
qFad 4 s3 w81,
qLd s81 w82,
seqO (r_len s82 0 83) w83,
seqO (r_callF 162 [s80,s83] 0 84) w84,
qBin bEql .eql s84 (cn 0) w85,
qMov s85 w86,
gdO s86 true w87 (qFad 6 s3 w87),
gdO s86 true w88 (qLd s87 w88),
gdO s86 true w89 (qFad 4 s3 w89),
gdO s86 true w90 (qLd s89 w90),
gdO s86 true w91 (seqO (r_len s90 0 91) w91),
gdO s86 true w92 (seqO (r_callF 162 [s88,s91] 0 92) w92),
gdO s86 true w93 (qBin bEql .eql s92 (cn 0) w93),
qPick s86 s93 cF w94,
qMov s94 w4] 17)
.ret))))),false⟩
def q97:QFn:=⟨2,[],
(.seq (.region [qMov s0 w6,
qMov s1 w7,
seqO (r_len s7 0 8) w8,
seqO (r_call 63 [s6,s8] 0 9) w9] 4)
(.seq (.region [qMov s1 w10,
seqO (r_len s10 0 11) w11,
qMov (cn 0) w12] 3)
(.block 0 (.loop (.seq (.region [qBin bLss .lss s12 s11 w13] 1)
(.seq (.cond s13 .skip
(.exit 0))
(.seq (.block 1 (.seq (.region [seqO (r_indexAddr 2 s10 s12 0 14) w14,
seqO (r_load 2 true s14 0 15) w15,
seqO (r_alloc [(.d (.sc (.string ⟨#[]⟩))),(.d (.sc (.int .i64 0)))] 0 5) w5,
seqO (r_store 2 s5 s15 0 0) wN] 4)
(.seq (.region [qMov s0 w16,
qFad 0 s5 w17,
qLd s17 w18,
seqO (r_call 64 [s16,s18] 0 19) w19] 4)
(.region [qMov s0 w20,
qFad 1 s5 w21,
qLd s21 w22,
seqO (r_call 63 [s20,s22] 0 23) w23] 4))))
(.region [qBin bAdd .add s12 (cn 1) w24,
qMov s24 w12] 2)))))))),true⟩
def q98:QFn:=⟨1,[.t s2],
(.seq (.region [seqO (r_mov (cK (.own [] .full)) 65540 2) w2] 1)
(.seq (.region [seqO (r_alloc [(.own [] .full)] 0 3) w3] 1)
(.seq (.region [seqO (r_makeFunc 163 [s3] 0 5) w5,
qMov s5 w4] 2)
(.seq (.block 0 (.loop (.seq (.seq (.region [qMov s0 w6,
qBin bGeq .geq s6 (cu 128) w7] 2)
(.cond s7 .skip
(.exit 0)))
(.seq (.block 1 (.region [qMov s4 w10,
qMov s0 w11,
seqO (r_conv .u8 s11 0 12) w12,
qBin (bGen .or) .or s12 (cb 128) w13,
seqO (r_callv s10 [s13] 0 14) w14] 5))
(.region [qMov s0 w8,
qBin (bGen .shr) .shr s8 (cu 7) w9,
qMov s9 w0] 3)))))
(.seq (.region [qMov s4 w15,
qMov s0 w16,
seqO (r_conv .u8 s16 0 17) w17,
seqO (r_callv s15 [s17] 0 18) w18] 4)
(.seq (.region [qLd s3 w19,
seqO (r_mov s19 65540 2) w2] 2)
.ret)))))),false⟩
def q99:QFn:=⟨1,[.t s2],
(.seq (.region [qMov (cK (.own [] .full)) w2] 1)
(.seq (.region [qMov s0 w3,
seqO (r_conv .u64 s3 0 4) w4,
qBin (bGen .shl) .shl s4 (cu 1) w5,
qMov s0 w6,
qBin (bGen .shr) .shr s6 (cu 63) w7,
seqO (r_conv .u64 s7 0 8) w8,
qBin (bGen .xor) .xor s5 s8 w9,
seqO (r_call 98 [s9] 0 10) w10,
qMov s10 w2] 9)
.ret)),false⟩
def q100:QFn:=⟨1,[.t s2,.t s3],
(.seq (.region [seqO (r_box s0 0 1) w1,
qMov (cK (.own [] .full)) w2,
qMov (cn 0) w3] 3)
(.seq (.seq (.region [seqO (r_load 4 true s1 0 10) w10,
seqO (r_callF 153 [s10] 0 11) w11,
qMov s11 w4] 3)
(.seq (.region [qMov s4 w12,
qBin bNeq .neq s12 (cn 0) w13] 2)
(.cond s13 (.seq (.region [qMov s4 w14,
qMov (cK (.own [] .full)) w2,
qMov s14 w3] 3)
.ret)
.skip)))
(.seq (.region [qFad 0 s1 w16,
qLd s16 w17,
seqO (r_callF 154 [s17] 0 18) w18,
qMov s18 w15,
seqO (r_extract s15 0 0 19) w19,
seqO (r_extract s15 1 0 20) w20,
seqO (r_alloc [(.d (.sc (.int .i64 0))),(.d (.sc (.int .i64 0))),(.d (.sc (.bool false))),(.d (.sc (.bool false))),(.d (.sc (.int .i64 0))),(.d (.sc (.int .i64 0))),(.d (.sc (.bool false))),(.d (.sc (.bool false))),(.d (.sc (.int .i64 0))),(.d (.sc (.int .i64 0))),(.d (.sc (.bool false))),(.d (.sc (.bool false)))] 0 5) w5,
seqO (r_store 12 s5 s19 0 0) wN,
qMov s20 w6] 9)
(.seq (.region [qFad 0 s1 w21,
qLd s21 w22,
seqO (r_buildSlice 1 1 [(.sc (.int .u8 0))] [(0,s22)] 0 23) w23,
qMov s23 w7] 4)
(.seq (.seq (.region [seqO (r_load 4 true s1 0 24) w24,
seqO (r_callF 155 [s24] 0 25) w25,
qMov (cn 0) w26] 3)
(.block 0 (.loop (.seq (.region [qBin bLss .lss s26 (cn 3) w27] 1)
(.seq (.cond s27 .skip
(.exit 0))
(.seq (.block 1 (.seq (.region [qMov s26 w28,
seqO (r_indexA 3 1 false s25 s26 0 29) w29,
qMov s28 w8,
qMov s29 w9] 4)
(.block 2 (.seq (.region [qMov s8 w36,
qMov s6 w37,
qBin bGeq .geq s36 s37 w38,
qMov s38 w35] 4)
(.cond s35 .skip
(.seq (.region [qMov s8 w40,
seqO (r_indexArr 3 4 s5 s40 0 41) w41,
qFad 0 s41 w42,
qLd s42 w43,
qBin bLss .lss s43 (cn 0) w44,
qMov s44 w39] 6)
(.cond s39 (.region [qMov s7 w45,
qMov s9 w46,
seqO (r_call 99 [s46] 0 47) w47,
seqO (r_append 1 1 s45 s47 0 48) w48,
qMov s48 w7] 5)
(.region [qMov s7 w30,
qMov s9 w31,
seqO (r_conv .u64 s31 0 32) w32,
seqO (r_call 98 [s32] 0 33) w33,
seqO (r_append 1 1 s30 s33 0 34) w34,
qMov s34 w7] 6))))))))
(.region [qBin bAdd .add s26 (cn 1) w49,
qMov s49 w26] 2)))))))
(.seq (.region [qMov s7 w50,
qMov s50 w2,
qMov (cn 0) w3] 3)
.ret)))))),false⟩
def q101:QFn:=⟨2,[.t s4,.t s5],
(.seq (.region [qMov (cK (.own [] .full)) w4,
qMov (cn 0) w5] 2)
(.seq (.seq (.region [qMov s0 w11,
qMov s1 w12,
seqO (r_callF 162 [s11,s12] 0 13) w13,
qMov s13 w6] 4)
(.seq (.region [qMov s6 w14,
qBin bNeq .neq s14 (cn 0) w15] 2)
(.cond s15 (.seq (.region [qMov s6 w16,
qMov (cK (.own [] .full)) w4,
qMov s16 w5] 3)
.ret)
.skip)))
(.seq (.region [qMov s0 w17,
seqO (r_len s17 0 18) w18,
seqO (r_conv .u64 s18 0 19) w19,
seqO (r_call 98 [s19] 65537 20) w20,
qMov s20 w7] 5)
(.seq (.region [qMov (cn 0) w8] 1)
(.seq (.seq (.region [qMov s0 w21,
seqO (r_len s21 0 22) w22,
qMov (cn 0) w23] 3)
(.block 0 (.loop (.seq (.region [qBin bLss .lss s23 s22 w24] 1)
(.seq (.cond s24 .skip
(.exit 0))
(.seq (.block 1 (.seq (.region [seqO (r_indexAddr 2 s21 s23 0 25) w25,
seqO (r_load 2 true s25 0 26) w26,
seqO (r_alloc [(.d (.sc (.int .i64 0))),(.d (.sc (.int .u64 0)))] 0 10) w10,
seqO (r_store 2 s10 s26 0 0) wN] 4)
(.seq (.region [qMov s7 w27,
qFad 0 s10 w28,
qLd s28 w29,
qMov s8 w30,
qBin bSub .sub s29 s30 w31,
seqO (r_conv .u64 s31 0 32) w32,
seqO (r_call 98 [s32] 0 33) w33,
seqO (r_append 1 1 s27 s33 0 34) w34,
qMov s34 w7] 9)
(.seq (.region [qMov s7 w35,
qFad 1 s10 w36,
qLd s36 w37,
seqO (r_call 98 [s37] 0 38) w38,
seqO (r_append 1 1 s35 s38 0 39) w39,
qMov s39 w7] 6)
(.region [qFad 0 s10 w40,
qLd s40 w41,
qMov s41 w8] 3)))))
(.region [qBin bAdd .add s23 (cn 1) w42,
qMov s42 w23] 2)))))))
(.seq (.region [qMov s7 w43,
qMov s43 w4,
qMov (cn 0) w5] 3)
.ret)))))),false⟩
def q133:QFn:=⟨1,[.t s2],
(.seq (.region [qMov (cn 0) w2] 1)
(.seq (.region [qMov s0 w6,
seqO (r_len s6 0 7) w7,
qMov s7 w3] 3)
(.seq (.seq (.region [qMov s3 w8,
qBin bEql .eql s8 (cn 0) w9,
qMov s9 w10,
gdO s10 false w11 (qMov s3 w11),
gdO s10 false w12 (qBin bGtr .gtr s11 (cn 200) w12),
qPick s10 cT s12 w13,
qMov s13 w14,
gdO s14 false w15 (qMov s0 w15),
gdO s14 false w16 (qMov s3 w16),
gdO s14 false w17 (qBin bSub .sub s16 (cn 1) w17),
gdO s14 false w18 (seqO (r_indexAddr 4 s15 s17 0 18) w18),
gdO s14 false w19 (seqO (r_load 4 true s18 0 19) w19),
gdO s14 false w20 (seqO (r_build [(.d (.sc (.int .u8 0))),(.d (.sc (.int .i64 0))),(.d (.sc (.int .i64 0))),(.d (.sc (.int .i64 0)))] [(0,1,(cb 34)),(1,1,(cm 0))] 0 20) w20),
gdO s14 false w21 (seqO (r_eqA true 4 [(0,1),(1,1),(2,1),(3,1)] s19 s20 0 21) w21),
qPick s14 cT s21 w22] 15)
(.cond s22 (.seq (.region [qMov (cn 8) w2] 1)
.ret)
.skip))
(.seq (.seq (.region [qMov s0 w23,
seqO (r_len s23 0 24) w24,
qMov (cn 0) w25] 3)
(.block 0 (.loop (.seq (.region [qBin bLss .lss s25 s24 w26] 1)
(.seq (.cond s26 .skip
(.exit 0))
(.seq (.block 1 (.seq (.region [seqO (r_indexAddr 4 s23 s25 0 27) w27,
seqO (r_load 4 true s27 0 28) w28,
seqO (r_alloc [(.d (.sc (.int .u8 0))),(.d (.sc (.int .i64 0))),(.d (.sc (.int .i64 0))),(.d (.sc (.int .i64 0)))] 0 5) w5,
seqO (r_store 4 s5 s28 0 0) wN] 4)
(.seq (.seq (.region [seqO (r_load 4 true s5 0 29) w29,
seqO (r_callF 153 [s29] 0 30) w30,
qBin bNeq .neq s30 (cn 0) w31] 3)
(.cond s31 (.seq (.region [qMov (cn 8) w2] 1)
.ret)
.skip))
(.seq (.region [qFad 0 s5 w32,
qLd s32 w33,
qBin bEql .eql s33 (cb 22) w34,
qMov s34 w35,
gdO s35 true w36 (qFad 1 s5 w36),
gdO s35 true w37 (qLd s36 w37),
gdO s35 true w38 (qMov s3 w38),
gdO s35 true w39 (qBin bGeq .geq s37 s38 w39),
qPick s35 s39 cF w40,
qMov s40 w41,
gdO s41 false w42 (qFad 0 s5 w42),
gdO s41 false w43 (qLd s42 w43),
gdO s41 false w44 (qBin bEql .eql s43 (cb 23) w44),
gdO s41 false w45 (qMov s44 w45),
gdO s45 true w46 (qFad 2 s5 w46),
gdO s45 true w47 (qLd s46 w47),
gdO s45 true w48 (qMov s3 w48),
gdO s45 true w49 (qBin bGeq .geq s47 s48 w49),
gdO s41 false w50 (qPick s45 s49 cF w50),
qPick s41 cT s50 w51] 20)
(.cond s51 (.seq (.region [qMov (cn 8) w2] 1)
.ret)
.skip)))))
(.region [qBin bAdd .add s25 (cn 1) w52,
qMov s52 w25] 2)))))))
(.seq (.region [qMov (cn 0) w2] 1)
.ret))))),false⟩
def q134:QFn:=⟨2,[],
(.seq (.region [qMov s1 w8,
seqO (r_callv s8 [(cn 0),(cm 0)] 0 9) w9] 2)
(.seq (.region [seqO (r_buildSlice 1 1 [(.sc (.int .i64 0))] [(0,(cn 0))] 1 10) w10,
qMov s10 w4] 2)
(.block 0 (.loop (.seq (.seq (.region [qMov s4 w11,
seqO (r_len s11 0 12) w12,
qBin bGtr .gtr s12 (cn 0) w13] 3)
(.cond s13 .skip
(.exit 0)))
(.block 1 (.seq (.region [qMov s4 w14,
qMov s4 w15,
seqO (r_len s15 0 16) w16,
qBin bSub .sub s16 (cn 1) w17,
seqO (r_indexAddr 1 s14 s17 0 18) w18,
qLd s18 w19,
qMov s19 w5] 7)
(.seq (.region [qMov s4 w20,
qMov s4 w21,
seqO (r_len s21 0 22) w22,
qBin bSub .sub s22 (cn 1) w23,
seqO (r_slice 1 s20 none (some s23) none 3 24) w24,
qMov s24 w4] 6)
(.seq (.region [qMov s0 w25,
qMov s5 w26,
seqO (r_call 205 [s25,s26] 0 27) w27,
seqO (r_len s27 0 28) w28,
qMov (cn 0) w29] 5)
(.block 2 (.loop (.seq (.region [qBin bLss .lss s29 s28 w30] 1)
(.seq (.cond s30 .skip
(.exit 2))
(.seq (.block 3 (.seq (.region [seqO (r_indexAddr 1 s27 s29 0 31) w31,
qLd s31 w32,
qMov s32 w7] 3)
(.seq (.region [qMov s1 w33,
qMov s7 w34,
qMov s5 w35,
seqO (r_callv s33 [s34,s35] 0 36) w36] 4)
(.cond s36 (.region [qMov s4 w37,
qMov s7 w38,
seqO (r_buildSlice 1 1 [(.sc (.int .i64 0))] [(0,s38)] 0 39) w39,
seqO (r_append 1 8 s37 s39 1 40) w40,
qMov s40 w4] 5)
.skip))))
(.region [qBin bAdd .add s29 (cn 1) w41,
qMov s41 w29] 2))))))))))))))),true⟩
def q135:QFn:=⟨3,[.t s5],
(.seq (.region [qMov cF w5] 1)
(.seq (.region [qLd s2 w7,
qMov s0 w8,
seqO (r_indexAddr 1 s7 s8 0 9) w9,
qLd s9 w10,
qMov s10 w6] 5)
(.seq (.region [qLd s2 w11,
qMov s0 w12,
seqO (r_indexAddr 1 s11 s12 0 13) w13,
seqO (r_store 1 s13 cT 0 0) wN] 4)
(.seq (.region [qMov s6 w14,
seqO (r_un .not s14 0 15) w15,
qMov s15 w5] 3)
.ret)))),true⟩
def q136:QFn:=⟨2,[.t s4],
(.seq (.region [qMov cF w4] 1)
(.seq (.region [qMov s1 w5,
qBin bGeq .geq s5 (cn 0) w6,
qMov s6 w7,
gdO s7 true w8 (qMov s1 w8),
gdO s7 true w9 (qMov s0 w9),
gdO s7 true w10 (seqO (r_len s9 0 10) w10),
gdO s7 true w11 (qBin bLss .lss s8 s10 w11),
qPick s7 s11 cF w12,
qMov s12 w4] 9)
.ret)),false⟩
def q137:QFn:=⟨1,[.t s2],
(.seq (.region [seqO (r_box s0 0 1) w1,
qMov (cn 0) w2] 2)
(.seq (.seq (.region [qFad 0 s1 w3,
qLd s3 w4] 2)
(.block 0 (.seq (.region [qBin bEql .eql s4 (cb 25) w6,
qMov s6 w5] 2)
(.cond s5 (.seq (.region [qFad 2 s1 w7,
qLd s7 w8,
qMov s8 w2] 3)
.ret)
(.seq (.seq (.region [qBin bEql .eql s4 (cb 26) w10,
qMov s10 w9] 2)
(.cond s9 .skip
(.region [qBin bEql .eql s4 (cb 27) w11,
qMov s11 w9] 2)))
(.cond s9 (.seq (.region [qFad 1 s1 w12,
qLd s12 w13,
qMov s13 w2] 3)
.ret)
.skip))))))
(.seq (.region [qMov (cm 0) w2] 1)
.ret))),false⟩
def q138:QFn:=⟨2,[.t s4],
(.seq (.region [qMov cF w4] 1)
(.seq (.region [qMov s1 w5,
qBin bGeq .geq s5 (cn 0) w6,
qMov s6 w7,
gdO s7 true w8 (qMov s1 w8),
gdO s7 true w9 (qMov s0 w9),
gdO s7 true w10 (seqO (r_len s9 0 10) w10),
gdO s7 true w11 (qBin bLss .lss s8 s10 w11),
qPick s7 s11 cF w12,
qMov s12 w4] 9)
.ret)),false⟩
def q139:QFn:=⟨2,[.t s4],
(.seq (.region [seqO (r_box s0 0 2) w2,
qMov (cn 0) w4] 2)
(.seq (.seq (.region [qFad 3 s2 w5,
qFad 3 s5 w6,
qLd s6 w7,
qMov s1 w8,
seqO (r_callF 136 [s7,s8] 0 9) w9,
seqO (r_un .not s9 0 10) w10] 6)
(.cond s10 (.seq (.region [qMov (cm 0) w4] 1)
.ret)
.skip))
(.seq (.region [qFad 3 s2 w11,
qFad 3 s11 w12,
qLd s12 w13,
qMov s1 w14,
seqO (r_indexAddr 2 s13 s14 0 15) w15,
qFad 1 s15 w16,
qLd s16 w17,
qMov s17 w4] 8)
.ret))),false⟩
def q140:QFn:=⟨2,[.t s3],
(.seq (.region [qMov cF w3] 1)
(.seq (.region [qMov s0 w4,
seqO (r_makeFunc 141 [s1] 0 5) w5,
seqO (r_callF 38 [s4,s5] 0 6) w6,
seqO (r_un .not s6 0 7) w7,
qMov s7 w3] 5)
.ret)),true⟩
def q141:QFn:=⟨2,[.t s3],
(.seq (.region [qMov cF w3] 1)
(.seq (.region [seqO (r_load 10 true s1 0 4) w4,
qMov s0 w5,
seqO (r_buildSlice 1 1 [(.sc (.int .u8 0))] [(0,(cb 2))] 2 6) w6,
seqO (r_callF 142 [s4,s5,s6] 0 7) w7,
seqO (r_un .not s7 0 8) w8,
qMov s8 w3] 6)
.ret)),true⟩
def q142:QFn:=⟨3,[.t s6],
(.seq (.region [seqO (r_box s0 0 3) w3,
qMov cF w6] 2)
(.seq (.region [qMov s1 w7,
qBin bGeq .geq s7 (cn 0) w8,
qMov s8 w9,
gdO s9 true w10 (qMov s2 w10),
gdO s9 true w11 (qFad 0 s3 w11),
gdO s9 true w12 (qFad 0 s11 w12),
gdO s9 true w13 (qLd s12 w13),
gdO s9 true w14 (qMov s1 w14),
gdO s9 true w15 (seqO (r_indexAddr 4 s13 s14 0 15) w15),
gdO s9 true w16 (qFad 0 s15 w16),
gdO s9 true w17 (qLd s16 w17),
gdO s9 true w18 (seqO (r_callF 206 [s10,s17] 0 18) w18),
qPick s9 s18 cF w19,
qMov s19 w6] 14)
.ret)),false⟩
def q143:QFn:=⟨2,[.t s3],
(.seq (.region [qMov cF w3] 1)
(.seq (.region [seqO (r_load 10 true s1 0 4) w4,
qMov s0 w5,
seqO (r_buildSlice 1 1 [(.sc (.int .u8 0))] [(0,(cb 1))] 2 6) w6,
seqO (r_callF 142 [s4,s5,s6] 0 7) w7,
qMov s7 w3] 5)
.ret)),true⟩
def q146:QFn:=⟨2,[.t s4],
(.seq (.region [seqO (r_box s0 0 2) w2,
seqO (r_box s1 0 3) w3,
qMov cF w4] 3)
(.seq (.region [seqO (r_makeFunc 207 [s2] 0 6) w6,
qMov s6 w5] 2)
(.seq (.region [qFad 2 s3 w7,
qLd s7 w8,
qBin bLss .lss s8 (cn 0) w9,
qMov s9 w10,
gdO s10 true w11 (qFad 1 s3 w11),
gdO s10 true w12 (qLd s11 w12),
gdO s10 true w13 (qBin bEql .eql s12 (cn 0) w13),
gdO s10 true w14 (qMov s13 w14),
gdO s14 false w15 (qFad 1 s3 w15),
gdO s14 false w16 (qLd s15 w16),
gdO s14 false w17 (qBin bEql .eql s16 (cn 1) w17),
gdO s14 false w18 (qMov s17 w18),
gdO s18 true w19 (qMov s5 w19),
gdO s18 true w20 (qFad 3 s3 w20),
gdO s18 true w21 (qLd s20 w21),
gdO s18 true w22 (seqO (r_indexAddr 2 s21 (cn 0) 0 22) w22),
gdO s18 true w23 (qFad 1 s22 w23),
gdO s18 true w24 (qLd s23 w24),
gdO s18 true w25 (seqO (r_callv s19 [s24] 0 25) w25),
gdO s14 false w26 (qPick s18 s25 cF w26),
gdO s10 true w27 (qPick s14 cT s26 w27),
qPick s10 s27 cF w28,
qMov s28 w4] 23)
.ret))),false⟩
def q147:QFn:=⟨3,[.t s6,.t s7],
(.seq (.region [seqO (r_box s0 0 3) w3,
seqO (r_box s1 0 4) w4,
qMov (cK (.own [] .full)) w6,
qMov cF w7] 4)
(.seq (.seq (.region [qFad 0 s4 w15,
qLd s15 w16,
qBin bEql .eql s16 (cb 24) w17] 3)
(.cond s17 (.draw [⟨r_mov s2 0 18,w18,0⟩,
⟨r_call 208 [s18] 65537 19,w19,1⟩,
⟨r_load 10 true s3 0 20,w20,0⟩,
⟨r_fieldAddr 1 s4 0 21,w21,0⟩,
⟨r_load 1 false s21 0 22,w22,8⟩,
⟨r_callF 139 [s20,s22] 0 23,w23,31⟩,
⟨r_buildSlice 1 1 [(.sc (.int .i64 0))] [(0,s23)] 0 24,w24,63⟩,
⟨r_append 1 8 s19 s24 0 25,w25,127⟩,
⟨r_mov s25 0 2,w2,255⟩] 9)
.skip))
(.seq (.seq (.region [seqO (r_load 4 true s4 0 26) w26,
seqO (r_callF 137 [s26] 0 27) w27,
qMov s27 w8] 3)
(.seq (.region [qMov s8 w28,
qBin bGeq .geq s28 (cn 0) w29] 2)
(.cond s29 (.seq (.region [qFad 0 s3 w30,
qFad 2 s30 w31,
qLd s31 w32,
qMov s8 w33,
seqO (r_indexAddr 7 s32 s33 0 34) w34,
seqO (r_load 7 true s34 0 35) w35,
seqO (r_alloc [(.d (.sc (.string ⟨#[]⟩))),(.d (.sc (.int .i64 0))),(.d (.sc (.int .i64 0))),(.own [] .full),(.own [] .full),(.own [] .full),(.own [] .full)] 0 9) w9,
seqO (r_store 7 s9 s35 0 0) wN] 8)
(.seq (.region [qMov s2 w36,
seqO (r_len s36 0 37) w37,
qFad 1 s9 w38,
qLd s38 w39,
qBin bSub .sub s37 s39 w40,
qMov s40 w10] 6)
(.seq (.seq (.region [qMov s10 w41,
qBin bLss .lss s41 (cn 0) w42] 2)
(.cond s42 (.seq (.region [qMov (cK (.own [] .full)) w6,
qMov cF w7] 2)
.ret)
.skip))
(.seq (.seq (.region [qMov s2 w43,
qMov s10 w44,
seqO (r_slice 1 s43 (some s44) none none 0 45) w45,
seqO (r_len s45 0 46) w46,
qMov (cn 0) w47] 5)
(.block 0 (.loop (.seq (.region [qBin bLss .lss s47 s46 w48] 1)
(.seq (.cond s48 .skip
(.exit 0))
(.seq (.block 1 (.seq (.region [qMov s47 w49,
seqO (r_indexAddr 1 s45 s47 0 50) w50,
qLd s50 w51,
qMov s49 w11,
qMov s51 w12] 5)
(.seq (.region [qFad 3 s9 w52,
qLd s52 w53,
qMov s11 w54,
seqO (r_indexAddr 2 s53 s54 0 55) w55,
qFad 1 s55 w56,
qLd s56 w57,
qMov s12 w58,
qBin bNeq .neq s57 s58 w59] 8)
(.cond s59 (.seq (.region [qMov (cK (.own [] .full)) w6,
qMov cF w7] 2)
.ret)
.skip))))
(.region [qBin bAdd .add s47 (cn 1) w60,
qMov s60 w47] 2)))))))
(.region [qMov s2 w61,
qMov s10 w62,
seqO (r_slice 1 s61 none (some s62) none 3 63) w63,
qMov s63 w2] 4)))))
.skip)))
(.seq (.region [seqO (r_load 10 true s3 0 65) w65,
qMov s2 w66,
seqO (r_callF 150 [s65,s66] 0 67) w67,
qMov s67 w64,
seqO (r_extract s64 0 0 68) w68,
seqO (r_extract s64 1 0 69) w69,
qMov s68 w13,
qMov s69 w14] 8)
(.seq (.region [qMov s2 w70,
qMov s14 w71,
qBin bEql .eql s71 (cn 0) w72,
qMov s72 w73,
gdO s73 true w74 (qMov s13 w74),
gdO s73 true w75 (qBin bLeq .leq s74 (cn 4096) w75),
qPick s73 s75 cF w76,
qMov s70 w6,
qMov s76 w7] 9)
.ret))))),false⟩
def q148:QFn:=⟨2,[.t s4,.t s5],
(.seq (.region [qMov (cK (.own [] .full)) w4,
qMov (cn 0) w5] 2)
(.seq (.seq (.region [qMov s0 w7,
seqO (r_callF 133 [s7] 0 8) w8,
qMov s8 w6] 3)
(.seq (.region [qMov s6 w9,
qBin bNeq .neq s9 (cn 0) w10] 2)
(.cond s10 (.seq (.region [qMov s6 w11,
qMov (cK (.own [] .full)) w4,
qMov s11 w5] 3)
.ret)
.skip)))
(.seq (.seq (.region [qMov s1 w12,
qBin bLss .lss s12 (cn 0) w13,
qMov s13 w14,
gdO s14 false w15 (qMov s1 w15),
gdO s14 false w16 (qMov s0 w16),
gdO s14 false w17 (seqO (r_len s16 0 17) w17),
gdO s14 false w18 (qBin bGeq .geq s15 s17 w18),
qPick s14 cT s18 w19] 8)
(.cond s19 (.seq (.region [qMov (cK (.own [] .full)) w4,
qMov (cn 2) w5] 2)
.ret)
.skip))
(.seq (.region [qMov s0 w20,
qMov s1 w21,
seqO (r_call 205 [s20,s21] 0 22) w22,
qMov s22 w4,
qMov (cn 0) w5] 5)
.ret)))),false⟩
def q149:QFn:=⟨2,[.t s4],
(.seq (.region [qMov cF w4] 1)
(.seq (.seq (.region [qMov s0 w6,
seqO (r_len s6 0 7) w7,
qMov s1 w8,
seqO (r_len s8 0 9) w9,
qBin bNeq .neq s7 s9 w10] 5)
(.cond s10 (.seq (.region [qMov cF w4] 1)
.ret)
.skip))
(.seq (.seq (.region [qMov s0 w11,
seqO (r_len s11 0 12) w12,
qMov (cn 0) w13] 3)
(.block 0 (.loop (.seq (.region [qBin bLss .lss s13 s12 w14] 1)
(.seq (.cond s14 .skip
(.exit 0))
(.seq (.block 1 (.seq (.region [qMov s13 w15,
qMov s15 w5] 2)
(.seq (.draw [⟨r_mov s0 0 16,w16,0⟩,
⟨r_mov s5 0 17,w17,0⟩,
⟨r_indexAddr 1 s16 s17 0 18,w18,3⟩,
⟨r_load 1 false s18 0 19,w19,7⟩,
⟨r_mov s1 0 20,w20,0⟩,
⟨r_mov s5 0 21,w21,0⟩,
⟨r_indexAddr 1 s20 s21 0 22,w22,48⟩,
⟨r_load 1 false s22 0 23,w23,112⟩,
⟨r_bin .neq s19 s23 0 24,w24,255⟩] 9)
(.cond s24 (.seq (.region [qMov cF w4] 1)
.ret)
.skip))))
(.region [qBin bAdd .add s13 (cn 1) w25,
qMov s25 w13] 2)))))))
(.seq (.region [qMov cT w4] 1)
.ret)))),false⟩
def q150:QFn:=⟨2,[.t s4,.t s5],
(.seq (.region [seqO (r_box s0 0 2) w2,
qMov (cn 0) w4,
qMov (cn 0) w5] 3)
(.seq (.region [qMov (cn 0) w6] 1)
(.seq (.seq (.region [qMov s1 w12,
seqO (r_len s12 0 13) w13,
qMov (cn 0) w14] 3)
(.block 0 (.loop (.seq (.region [qBin bLss .lss s14 s13 w15] 1)
(.seq (.cond s15 .skip
(.exit 0))
(.seq (.block 1 (.seq (.region [seqO (r_indexAddr 1 s12 s14 0 16) w16,
qLd s16 w17,
qMov s17 w8] 3)
(.seq (.region [qFad 0 s2 w19,
qFad 0 s19 w20,
qLd s20 w21,
qMov s8 w22,
seqO (r_callF 95 [s21,s22] 0 23) w23,
qMov s23 w18,
seqO (r_extract s18 0 0 24) w24,
seqO (r_extract s18 1 0 25) w25,
seqO (r_extract s18 2 0 26) w26,
qMov s24 w9,
qMov s25 w10,
qMov s26 w11] 12)
(.seq (.seq (.region [qMov s11 w27,
qBin bNeq .neq s27 (cn 0) w28] 2)
(.cond s28 (.seq (.region [qMov s11 w29,
qMov (cn 0) w4,
qMov s29 w5] 3)
.ret)
.skip))
(.seq (.region [qMov s9 w31,
seqO (r_callF 209 [s31] 0 32) w32,
qMov s32 w30,
seqO (r_extract s30 0 0 33) w33,
seqO (r_extract s30 1 0 34) w34,
qMov s33 w9,
qMov s34 w11] 7)
(.seq (.seq (.region [qMov s11 w35,
qBin bNeq .neq s35 (cn 0) w36] 2)
(.cond s36 (.seq (.region [qMov s11 w37,
qMov (cn 0) w4,
qMov s37 w5] 3)
.ret)
.skip))
(.region [qMov s6 w38,
qMov s9 w39,
qBin bAdd .add s38 s39 w40,
qMov s40 w6] 4)))))))
(.region [qBin bAdd .add s14 (cn 1) w41,
qMov s41 w14] 2)))))))
(.seq (.region [qMov s6 w42,
qMov s42 w4,
qMov (cn 0) w5] 3)
.ret)))),false⟩
def q151:QFn:=⟨1,[.t s2],
(.seq (.region [qMov (cu 0) w2] 1)
(.seq (.region [qMov (cu 0) w3] 1)
(.seq (.seq (.region [qMov s0 w6,
seqO (r_len s6 0 7) w7,
qMov (cn 0) w8] 3)
(.block 0 (.loop (.seq (.region [qBin bLss .lss s8 s7 w9] 1)
(.seq (.cond s9 .skip
(.exit 0))
(.seq (.block 1 (.seq (.region [seqO (r_indexAddr 1 s6 s8 0 10) w10,
qLd s10 w11,
qMov s11 w5] 3)
(.region [qMov s3 w12,
qMov s5 w13,
qBin (bGen .shl) .shl (cu 1) s13 w14,
qBin (bGen .or) .or s12 s14 w15,
qMov s15 w3] 5)))
(.region [qBin bAdd .add s8 (cn 1) w16,
qMov s16 w8] 2)))))))
(.seq (.region [qMov s3 w17,
qMov s17 w2] 2)
.ret)))),false⟩
def q152:QFn:=⟨6,[.t s8],
(.seq (.region [qMov cF w8] 1)
(.seq (.seq (.region [qMov s1 w11,
qBin bLss .lss s11 (cn 0) w12] 2)
(.cond s12 (.seq (.draw [⟨r_load 1 false s3 0 13,w13,0⟩,
⟨r_mov s0 0 14,w14,0⟩,
⟨r_load 1 false s4 0 15,w15,0⟩,
⟨r_mov s0 0 16,w16,0⟩,
⟨r_load 1 false s2 0 17,w17,0⟩,
⟨r_bin .shl (cu 1) s17 0 18,w18,16⟩,
⟨r_bin .sub s18 (cu 1) 0 19,w19,48⟩,
⟨r_indexAddr 1 s13 s14 0 20,w20,3⟩,
⟨r_store 1 s20 cT 0 0,wN,131⟩,
⟨r_indexAddr 1 s15 s16 0 21,w21,511⟩,
⟨r_store 1 s21 s19 0 0,wN,1023⟩] 11)
(.seq (.region [qMov cT w8] 1)
.ret))
.skip))
(.seq (.draw [⟨r_load 1 false s4 0 22,w22,0⟩,
⟨r_mov s1 0 23,w23,0⟩,
⟨r_indexAddr 1 s22 s23 0 24,w24,3⟩,
⟨r_load 1 false s24 0 25,w25,7⟩,
⟨r_load 1 false s5 0 26,w26,0⟩,
⟨r_mov s1 0 27,w27,0⟩,
⟨r_indexAddr 1 s26 s27 0 28,w28,48⟩,
⟨r_load 1 false s28 0 29,w29,112⟩,
⟨r_bin .or s25 s29 0 30,w30,255⟩,
⟨r_mov s30 0 9,w9,511⟩] 10)
(.seq (.seq (.region [qLd s3 w31,
qMov s0 w32,
seqO (r_indexAddr 1 s31 s32 0 33) w33,
qLd s33 w34,
seqO (r_un .not s34 0 35) w35] 5)
(.cond s35 (.seq (.draw [⟨r_load 1 false s3 0 36,w36,0⟩,
⟨r_mov s0 0 37,w37,0⟩,
⟨r_load 1 false s4 0 38,w38,0⟩,
⟨r_mov s0 0 39,w39,0⟩,
⟨r_mov s9 0 40,w40,0⟩,
⟨r_indexAddr 1 s36 s37 0 41,w41,3⟩,
⟨r_store 1 s41 cT 0 0,wN,35⟩,
⟨r_indexAddr 1 s38 s39 0 42,w42,127⟩,
⟨r_store 1 s42 s40 0 0,wN,255⟩] 9)
(.seq (.region [qMov cT w8] 1)
.ret))
.skip))
(.seq (.region [qLd s4 w43,
qMov s0 w44,
seqO (r_indexAddr 1 s43 s44 0 45) w45,
qLd s45 w46,
qMov s46 w10] 5)
(.seq (.region [qLd s4 w47,
qMov s0 w48,
seqO (r_indexAddr 1 s47 s48 0 49) w49,
qLd s49 w50,
qMov s9 w51,
qBin (bGen .and) .and s50 s51 w52,
seqO (r_indexAddr 1 s47 s48 0 53) w53,
seqO (r_store 1 s53 s52 0 0) wN] 8)
(.seq (.region [qLd s4 w54,
qMov s0 w55,
seqO (r_indexAddr 1 s54 s55 0 56) w56,
qLd s56 w57,
qMov s10 w58,
qBin bNeq .neq s57 s58 w59,
qMov s59 w8] 7)
.ret))))))),true⟩
def q153:QFn:=⟨1,[.t s2],
(.seq (.region [seqO (r_box s0 0 1) w1,
qMov (cn 0) w2] 2)
(.seq (.region [qFad 0 s1 w8,
qLd s8 w9,
seqO (r_callF 154 [s9] 0 10) w10,
qMov s10 w7,
seqO (r_extract s7 0 0 11) w11,
seqO (r_extract s7 1 0 12) w12,
seqO (r_alloc [(.d (.sc (.int .i64 0))),(.d (.sc (.int .i64 0))),(.d (.sc (.bool false))),(.d (.sc (.bool false))),(.d (.sc (.int .i64 0))),(.d (.sc (.int .i64 0))),(.d (.sc (.bool false))),(.d (.sc (.bool false))),(.d (.sc (.int .i64 0))),(.d (.sc (.int .i64 0))),(.d (.sc (.bool false))),(.d (.sc (.bool false)))] 0 3) w3,
seqO (r_store 12 s3 s11 0 0) wN,
qMov s12 w4] 9)
(.seq (.seq (.region [qMov s4 w13,
qBin bLss .lss s13 (cn 0) w14] 2)
(.cond s14 (.seq (.region [qMov (cn 8) w2] 1)
.ret)
.skip))
(.seq (.seq (.region [seqO (r_load 4 true s1 0 15) w15,
seqO (r_callF 155 [s15] 0 16) w16,
qMov (cn 0) w17] 3)
(.block 0 (.loop (.seq (.region [qBin bLss .lss s17 (cn 3) w18] 1)
(.seq (.cond s18 .skip
(.exit 0))
(.seq (.block 1 (.seq (.region [qMov s17 w19,
seqO (r_indexA 3 1 false s16 s17 0 20) w20,
qMov s19 w5,
qMov s20 w6] 4)
(.seq (.region [qMov s6 w21,
qMov s5 w22,
seqO (r_indexArr 3 4 s3 s22 0 23) w23,
qFad 0 s23 w24,
qLd s24 w25,
qBin bLss .lss s21 s25 w26,
qMov s26 w27,
gdO s27 false w28 (qMov s6 w28),
gdO s27 false w29 (qMov s5 w29),
gdO s27 false w30 (seqO (r_indexArr 3 4 s3 s29 0 30) w30),
gdO s27 false w31 (qFad 1 s30 w31),
gdO s27 false w32 (qLd s31 w32),
gdO s27 false w33 (qBin bGtr .gtr s28 s32 w33),
qPick s27 cT s33 w34] 14)
(.cond s34 (.seq (.region [qMov (cn 8) w2] 1)
.ret)
.skip))))
(.region [qBin bAdd .add s17 (cn 1) w35,
qMov s35 w17] 2)))))))
(.seq (.region [qMov (cn 0) w2] 1)
.ret))))),false⟩
def q154:QFn:=⟨1,[.cell s2 12 true,.cell s3 1 false],
(.seq (.region [seqO (r_alloc [(.d (.sc (.int .i64 0))),(.d (.sc (.int .i64 0))),(.d (.sc (.bool false))),(.d (.sc (.bool false))),(.d (.sc (.int .i64 0))),(.d (.sc (.int .i64 0))),(.d (.sc (.bool false))),(.d (.sc (.bool false))),(.d (.sc (.int .i64 0))),(.d (.sc (.int .i64 0))),(.d (.sc (.bool false))),(.d (.sc (.bool false)))] 0 2) w2,
seqO (r_alloc [(.d (.sc (.int .i64 0)))] 0 3) w3] 2)
(.seq (.region [seqO (r_makeFunc 210 [s2,s3] 0 5) w5,
qMov s5 w4] 2)
(.seq (.seq (.region [qMov s0 w6] 1)
(.block 0 (.seq (.block 19 (.seq (.block 18 (.seq (.block 17 (.seq (.block 16 (.seq (.block 15 (.seq (.block 14 (.seq (.block 13 (.seq (.block 12 (.seq (.block 11 (.seq (.block 10 (.seq (.block 9 (.seq (.block 8 (.seq (.block 7 (.seq (.block 6 (.seq (.block 5 (.seq (.block 4 (.seq (.block 3 (.seq (.block 2 (.seq (.block 1 (.seq (.seq (.seq (.seq (.region [qBin bEql .eql s6 (cb 30) w8,
qMov s8 w7] 2)
(.cond s7 .skip
(.region [qBin bEql .eql s6 (cb 31) w9,
qMov s9 w7] 2)))
(.cond s7 (.exit 1)
.skip))
(.seq (.seq (.region [qBin bEql .eql s6 (cb 1) w11,
qMov s11 w10] 2)
(.cond s10 (.exit 2)
.skip))
(.seq (.seq (.region [qBin bEql .eql s6 (cb 2) w13,
qMov s13 w12] 2)
(.cond s12 (.exit 3)
.skip))
(.seq (.seq (.region [qBin bEql .eql s6 (cb 3) w15,
qMov s15 w14] 2)
(.cond s14 (.exit 4)
.skip))
(.seq (.seq (.seq (.region [qBin bEql .eql s6 (cb 4) w17,
qMov s17 w16] 2)
(.cond s16 .skip
(.region [qBin bEql .eql s6 (cb 15) w18,
qMov s18 w16] 2)))
(.cond s16 (.exit 5)
.skip))
(.seq (.seq (.seq (.region [qBin bEql .eql s6 (cb 6) w20,
qMov s20 w19] 2)
(.cond s19 .skip
(.seq (.region [qBin bEql .eql s6 (cb 7) w21,
qMov s21 w19] 2)
(.cond s19 .skip
(.seq (.region [qBin bEql .eql s6 (cb 8) w22,
qMov s22 w19] 2)
(.cond s19 .skip
(.seq (.region [qBin bEql .eql s6 (cb 9) w23,
qMov s23 w19] 2)
(.cond s19 .skip
(.seq (.region [qBin bEql .eql s6 (cb 10) w24,
qMov s24 w19] 2)
(.cond s19 .skip
(.seq (.region [qBin bEql .eql s6 (cb 11) w25,
qMov s25 w19] 2)
(.cond s19 .skip
(.region [qBin bEql .eql s6 (cb 19) w26,
qMov s26 w19] 2)))))))))))))
(.cond s19 (.exit 6)
.skip))
(.seq (.seq (.seq (.region [qBin bEql .eql s6 (cb 5) w28,
qMov s28 w27] 2)
(.cond s27 .skip
(.seq (.region [qBin bEql .eql s6 (cb 12) w29,
qMov s29 w27] 2)
(.cond s27 .skip
(.seq (.region [qBin bEql .eql s6 (cb 16) w30,
qMov s30 w27] 2)
(.cond s27 .skip
(.seq (.region [qBin bEql .eql s6 (cb 18) w31,
qMov s31 w27] 2)
(.cond s27 .skip
(.seq (.region [qBin bEql .eql s6 (cb 21) w32,
qMov s32 w27] 2)
(.cond s27 .skip
(.region [qBin bEql .eql s6 (cb 33) w33,
qMov s33 w27] 2)))))))))))
(.cond s27 (.exit 7)
.skip))
(.seq (.seq (.region [qBin bEql .eql s6 (cb 13) w35,
qMov s35 w34] 2)
(.cond s34 (.exit 8)
.skip))
(.seq (.seq (.region [qBin bEql .eql s6 (cb 14) w37,
qMov s37 w36] 2)
(.cond s36 (.exit 9)
.skip))
(.seq (.seq (.region [qBin bEql .eql s6 (cb 20) w39,
qMov s39 w38] 2)
(.cond s38 (.exit 10)
.skip))
(.seq (.seq (.region [qBin bEql .eql s6 (cb 17) w41,
qMov s41 w40] 2)
(.cond s40 (.exit 11)
.skip))
(.seq (.seq (.region [qBin bEql .eql s6 (cb 22) w43,
qMov s43 w42] 2)
(.cond s42 (.exit 12)
.skip))
(.seq (.seq (.region [qBin bEql .eql s6 (cb 23) w45,
qMov s45 w44] 2)
(.cond s44 (.exit 13)
.skip))
(.seq (.seq (.seq (.region [qBin bEql .eql s6 (cb 24) w47,
qMov s47 w46] 2)
(.cond s46 .skip
(.seq (.region [qBin bEql .eql s6 (cb 28) w48,
qMov s48 w46] 2)
(.cond s46 .skip
(.region [qBin bEql .eql s6 (cb 32) w49,
qMov s49 w46] 2)))))
(.cond s46 (.exit 14)
.skip))
(.seq (.seq (.region [qBin bEql .eql s6 (cb 25) w51,
qMov s51 w50] 2)
(.cond s50 (.exit 15)
.skip))
(.seq (.seq (.seq (.region [qBin bEql .eql s6 (cb 26) w53,
qMov s53 w52] 2)
(.cond s52 .skip
(.region [qBin bEql .eql s6 (cb 27) w54,
qMov s54 w52] 2)))
(.cond s52 (.exit 16)
.skip))
(.seq (.seq (.region [qBin bEql .eql s6 (cb 29) w56,
qMov s56 w55] 2)
(.cond s55 (.exit 17)
.skip))
(.seq (.region [qBin bEql .eql s6 (cb 34) w58,
qMov s58 w57] 2)
(.cond s57 (.exit 18)
.skip)))))))))))))))))))
(.exit 19)))
(.exit 0)))
(.seq (.region [qMov s4 w59,
seqO (r_callF 211 [] 0 60) w60,
seqO (r_callF 212 [] 0 61) w61,
seqO (r_buildSlice 4 2 [(.sc (.int .i64 0)),(.sc (.int .i64 0)),(.sc (.bool false)),(.sc (.bool false))] [(0,s60),(1,s61)] 0 62) w62,
seqO (r_callv s59 [s62] 0 63) w63] 5)
(.exit 0))))
(.seq (.region [qMov s4 w64,
seqO (r_callF 211 [] 0 65) w65,
seqO (r_callF 213 [(cn 32)] 0 66) w66,
seqO (r_buildSlice 4 2 [(.sc (.int .i64 0)),(.sc (.int .i64 0)),(.sc (.bool false)),(.sc (.bool false))] [(0,s65),(1,s66)] 0 67) w67,
seqO (r_callv s64 [s67] 0 68) w68] 5)
(.exit 0))))
(.seq (.region [qMov s4 w69,
seqO (r_callF 211 [] 0 70) w70,
seqO (r_callF 213 [(cn 2)] 0 71) w71,
seqO (r_buildSlice 4 2 [(.sc (.int .i64 0)),(.sc (.int .i64 0)),(.sc (.bool false)),(.sc (.bool false))] [(0,s70),(1,s71)] 0 72) w72,
seqO (r_callv s69 [s72] 0 73) w73] 5)
(.exit 0))))
(.seq (.region [qMov s4 w74,
seqO (r_callF 211 [] 0 75) w75,
seqO (r_buildSlice 4 1 [(.sc (.int .i64 0)),(.sc (.int .i64 0)),(.sc (.bool false)),(.sc (.bool false))] [(0,s75)] 0 76) w76,
seqO (r_callv s74 [s76] 0 77) w77] 4)
(.exit 0))))
(.region [seqO (r_callF 214 [] 0 78) w78,
seqO (r_indexArr 3 4 s2 (cn 2) 0 79) w79,
seqO (r_store 4 s79 s78 0 0) wN] 3)))
(.seq (.seq (.region [seqO (r_callF 211 [] 0 80) w80,
seqO (r_callF 214 [] 0 81) w81,
seqO (r_indexArr 3 4 s2 (cn 0) 0 82) w82,
seqO (r_store 4 s82 s80 0 0) wN,
seqO (r_indexArr 3 4 s2 (cn 1) 0 83) w83,
seqO (r_store 4 s83 s81 0 0) wN,
seqO (r_store 1 s3 (cn 2) 0 0) wN] 7)
(.seq (.region [seqO (r_indexArr 3 4 s2 (cn 2) 0 84) w84,
qFad 2 s84 w85,
qLd s85 w86] 3)
(.cond s86 (.region [seqO (r_store 1 s3 (cn 3) 0 0) wN] 1)
.skip)))
(.exit 0))))
(.seq (.region [qMov s4 w87,
seqO (r_callF 211 [] 0 88) w88,
seqO (r_callF 214 [] 0 89) w89,
seqO (r_callF 213 [(cn 8)] 0 90) w90,
seqO (r_buildSlice 4 3 [(.sc (.int .i64 0)),(.sc (.int .i64 0)),(.sc (.bool false)),(.sc (.bool false))] [(0,s88),(1,s89),(2,s90)] 0 91) w91,
seqO (r_callv s87 [s91] 0 92) w92] 6)
(.exit 0))))
(.seq (.region [qMov s4 w93,
seqO (r_callF 214 [] 0 94) w94,
seqO (r_callF 213 [(cn 8)] 0 95) w95,
seqO (r_callF 214 [] 0 96) w96,
seqO (r_buildSlice 4 3 [(.sc (.int .i64 0)),(.sc (.int .i64 0)),(.sc (.bool false)),(.sc (.bool false))] [(0,s94),(1,s95),(2,s96)] 0 97) w97,
seqO (r_callv s93 [s97] 0 98) w98] 6)
(.exit 0))))
(.seq (.region [qMov s4 w99,
seqO (r_callF 214 [] 0 100) w100,
seqO (r_callF 214 [] 0 101) w101,
seqO (r_callF 214 [] 0 102) w102,
seqO (r_buildSlice 4 3 [(.sc (.int .i64 0)),(.sc (.int .i64 0)),(.sc (.bool false)),(.sc (.bool false))] [(0,s100),(1,s101),(2,s102)] 0 103) w103,
seqO (r_callv s99 [s103] 0 104) w104] 6)
(.exit 0))))
(.seq (.region [qMov s4 w105,
seqO (r_callF 214 [] 0 106) w106,
seqO (r_callF 214 [] 0 107) w107,
seqO (r_buildSlice 4 2 [(.sc (.int .i64 0)),(.sc (.int .i64 0)),(.sc (.bool false)),(.sc (.bool false))] [(0,s106),(1,s107)] 0 108) w108,
seqO (r_callv s105 [s108] 0 109) w109] 5)
(.exit 0))))
(.seq (.region [qMov s4 w110,
seqO (r_callF 213 [(cn 200)] 0 111) w111,
seqO (r_buildSlice 4 1 [(.sc (.int .i64 0)),(.sc (.int .i64 0)),(.sc (.bool false)),(.sc (.bool false))] [(0,s111)] 0 112) w112,
seqO (r_callv s110 [s112] 0 113) w113] 4)
(.exit 0))))
(.seq (.region [qMov s4 w114,
seqO (r_callF 214 [] 0 115) w115,
seqO (r_callF 213 [(cn 200)] 0 116) w116,
seqO (r_buildSlice 4 2 [(.sc (.int .i64 0)),(.sc (.int .i64 0)),(.sc (.bool false)),(.sc (.bool false))] [(0,s115),(1,s116)] 0 117) w117,
seqO (r_callv s114 [s117] 0 118) w118] 5)
(.exit 0))))
(.seq (.region [qMov s4 w119,
seqO (r_callF 214 [] 0 120) w120,
seqO (r_buildSlice 4 1 [(.sc (.int .i64 0)),(.sc (.int .i64 0)),(.sc (.bool false)),(.sc (.bool false))] [(0,s120)] 0 121) w121,
seqO (r_callv s119 [s121] 0 122) w122] 4)
(.exit 0))))
(.seq (.seq (.region [qMov s4 w123,
seqO (r_callF 211 [] 0 124) w124,
seqO (r_callF 213 [(cn 32)] 0 125) w125,
seqO (r_buildSlice 4 2 [(.sc (.int .i64 0)),(.sc (.int .i64 0)),(.sc (.bool false)),(.sc (.bool false))] [(0,s124),(1,s125)] 0 126) w126,
seqO (r_callv s123 [s126] 0 127) w127] 5)
(.region [seqO (r_indexArr 3 4 s2 (cn 0) 0 128) w128,
qFad 0 s128 w129,
seqO (r_store 1 s129 (cm 0) 0 0) wN] 3))
(.exit 0))))
(.seq (.region [qMov s4 w130,
seqO (r_callF 213 [(cn 32)] 0 131) w131,
seqO (r_buildSlice 4 1 [(.sc (.int .i64 0)),(.sc (.int .i64 0)),(.sc (.bool false)),(.sc (.bool false))] [(0,s131)] 0 132) w132,
seqO (r_callv s130 [s132] 0 133) w133] 4)
(.exit 0))))
(.seq (.region [qMov s4 w134,
seqO (r_callF 211 [] 0 135) w135,
seqO (r_callF 211 [] 0 136) w136,
seqO (r_buildSlice 4 2 [(.sc (.int .i64 0)),(.sc (.int .i64 0)),(.sc (.bool false)),(.sc (.bool false))] [(0,s135),(1,s136)] 0 137) w137,
seqO (r_callv s134 [s137] 0 138) w138] 5)
(.exit 0))))
(.seq (.seq (.region [qMov s4 w139,
seqO (r_callF 214 [] 0 140) w140,
seqO (r_buildSlice 4 1 [(.sc (.int .i64 0)),(.sc (.int .i64 0)),(.sc (.bool false)),(.sc (.bool false))] [(0,s140)] 0 141) w141,
seqO (r_callv s139 [s141] 0 142) w142] 4)
(.region [seqO (r_indexArr 3 4 s2 (cn 0) 0 143) w143,
qFad 0 s143 w144,
seqO (r_store 1 s144 (cm 0) 0 0) wN] 3))
(.exit 0))))
(.seq (.region [seqO (r_store 1 s3 (cm 0) 0 0) wN] 1)
(.exit 0)))))
(.seq (.draw [⟨r_load 12 true s2 0 145,w145,0⟩,
⟨r_load 1 false s3 0 146,w146,0⟩,
⟨r_store 12 s2 s145 0 0,wN,1⟩,
⟨r_store 1 s3 s146 0 0,wN,7⟩] 4)
.ret)))),false⟩
def q155:QFn:=⟨1,[.cell s2 3 true],
(.seq (.region [seqO (r_box s0 0 1) w1,
seqO (r_alloc [(.d (.sc (.int .i64 0))),(.d (.sc (.int .i64 0))),(.d (.sc (.int .i64 0)))] 0 2) w2] 2)
(.seq (.region [qFad 1 s1 w3,
qLd s3 w4,
qFad 2 s1 w5,
qLd s5 w6,
qFad 3 s1 w7,
qLd s7 w8,
seqO (r_build [(.d (.sc (.int .i64 0))),(.d (.sc (.int .i64 0))),(.d (.sc (.int .i64 0)))] [(0,1,s4),(1,1,s6),(2,1,s8)] 0 9) w9,
seqO (r_store 3 s2 s9 0 0) wN] 8)
.ret)),false⟩
def q156:QFn:=⟨1,[.t s2],
(.seq (.region [qMov (cn 0) w2] 1)
(.seq (.seq (.region [qMov s0 w3,
qBin bLss .lss s3 (cn 1) w4,
qMov s4 w5,
gdO s5 false w6 (qMov s0 w6),
gdO s5 false w7 (qBin bGtr .gtr s6 (cn 200) w7),
qPick s5 cT s7 w8] 6)
(.cond s8 (.seq (.region [qMov (cn 2) w2] 1)
.ret)
.skip))
(.seq (.region [qMov (cn 0) w2] 1)
.ret))),false⟩
def q157:QFn:=⟨2,[.t s4],
(.seq (.region [qMov cF w4] 1)
(.seq (.region [qMov s0 w10,
qMov s1 w11,
seqO (r_indexAddr 4 s10 s11 0 12) w12,
seqO (r_load 4 true s12 0 13) w13,
seqO (r_alloc [(.d (.sc (.int .u8 0))),(.d (.sc (.int .i64 0))),(.d (.sc (.int .i64 0))),(.own [] .full)] 0 5) w5,
seqO (r_store 4 s5 s13 0 0) wN] 6)
(.seq (.region [qMov (cK (.clo 215 [])) w6] 1)
(.seq (.seq (.region [qFad 0 s5 w14,
qLd s14 w15] 2)
(.block 0 (.seq (.seq (.region [qBin bEql .eql s15 (cb 1) w17,
qMov s17 w16] 2)
(.cond s16 .skip
(.seq (.region [qBin bEql .eql s15 (cb 2) w18,
qMov s18 w16] 2)
(.cond s16 .skip
(.region [qBin bEql .eql s15 (cb 3) w19,
qMov s19 w16] 2)))))
(.cond s16 (.seq (.region [qFad 1 s5 w20,
qLd s20 w21,
qFad 2 s5 w22,
qLd s22 w23,
qFad 3 s5 w24,
qLd s24 w25,
seqO (r_len s25 0 26) w26,
seqO (r_buildSlice 1 3 [(.sc (.int .i64 0))] [(0,s21),(1,s23),(2,s26)] 2 27) w27,
seqO (r_callF 216 [s27] 0 28) w28,
qMov s28 w4] 10)
.ret)
(.seq (.seq (.region [qBin bEql .eql s15 (cb 4) w30,
qMov s30 w29] 2)
(.cond s29 .skip
(.region [qBin bEql .eql s15 (cb 7) w31,
qMov s31 w29] 2)))
(.cond s29 (.seq (.region [qMov s6 w32,
qFad 1 s5 w33,
qLd s33 w34,
qMov s0 w35,
seqO (r_len s35 0 36) w36,
seqO (r_callv s32 [s34,s36] 0 37) w37,
qMov s37 w38,
gdO s38 true w39 (qFad 2 s5 w39),
gdO s38 true w40 (qLd s39 w40),
gdO s38 true w41 (qFad 3 s5 w41),
gdO s38 true w42 (qLd s41 w42),
gdO s38 true w43 (seqO (r_len s42 0 43) w43),
gdO s38 true w44 (seqO (r_buildSlice 1 2 [(.sc (.int .i64 0))] [(0,s40),(1,s43)] 2 44) w44),
gdO s38 true w45 (seqO (r_callF 216 [s44] 0 45) w45),
qPick s38 s45 cF w46,
qMov s46 w4] 16)
.ret)
(.seq (.region [qBin bEql .eql s15 (cb 6) w48,
qMov s48 w47] 2)
(.cond s47 (.seq (.region [qMov s6 w49,
qFad 1 s5 w50,
qLd s50 w51,
qMov s1 w52,
seqO (r_callv s49 [s51,s52] 0 53) w53,
qMov s53 w54,
gdO s54 true w55 (qMov s6 w55),
gdO s54 true w56 (qFad 2 s5 w56),
gdO s54 true w57 (qLd s56 w57),
gdO s54 true w58 (qBin bSub .sub s57 (cn 1) w58),
gdO s54 true w59 (seqO (r_callv s55 [s58,(cn 16)] 0 59) w59),
qPick s54 s59 cF w60,
qMov s60 w61,
gdO s61 true w62 (qFad 3 s5 w62),
gdO s61 true w63 (qLd s62 w63),
gdO s61 true w64 (seqO (r_len s63 0 64) w64),
gdO s61 true w65 (seqO (r_buildSlice 1 1 [(.sc (.int .i64 0))] [(0,s64)] 2 65) w65),
gdO s61 true w66 (seqO (r_callF 216 [s65] 0 66) w66),
qPick s61 s66 cF w67,
qMov s67 w4] 20)
.ret)
(.seq (.region [qBin bEql .eql s15 (cb 5) w69,
qMov s69 w68] 2)
(.cond s68 (.seq (.region [seqO (r_mkSet 0 70) w70,
qMov s70 w7] 2)
(.seq (.seq (.region [qFad 3 s5 w71,
qLd s71 w72,
seqO (r_len s72 0 73) w73,
qMov (cn 0) w74] 4)
(.block 1 (.loop (.seq (.region [qBin bLss .lss s74 s73 w75] 1)
(.seq (.cond s75 .skip
(.exit 1))
(.seq (.block 2 (.seq (.region [seqO (r_indexAddr 2 s72 s74 0 76) w76,
seqO (r_load 2 true s76 0 77) w77,
seqO (r_alloc [(.d (.sc (.string ⟨#[]⟩))),(.d (.sc (.int .i64 0)))] 0 9) w9,
seqO (r_store 2 s9 s77 0 0) wN] 4)
(.seq (.seq (.region [qFad 0 s9 w78,
qLd s78 w79,
seqO (r_callF 160 [s79] 0 80) w80,
seqO (r_un .not s80 0 81) w81,
qMov s81 w82,
gdO s82 false w83 (qMov s7 w83),
gdO s82 false w84 (qFad 0 s9 w84),
gdO s82 false w85 (qLd s84 w85),
gdO s82 false w86 (seqO (r_hasK s83 s85 0 86) w86),
qPick s82 cT s86 w87,
qMov s87 w88,
gdO s88 false w89 (qMov s6 w89),
gdO s88 false w90 (qFad 1 s9 w90),
gdO s88 false w91 (qLd s90 w91),
gdO s88 false w92 (qMov s1 w92),
gdO s88 false w93 (seqO (r_callv s89 [s91,s92] 0 93) w93),
gdO s88 false w94 (seqO (r_un .not s93 0 94) w94),
qPick s88 cT s94 w95] 18)
(.cond s95 (.seq (.region [qMov cF w4] 1)
.ret)
.skip))
(.region [qMov s7 w96,
qFad 0 s9 w97,
qLd s97 w98,
seqO (r_addK s96 s98 0 0) wN] 4))))
(.region [qBin bAdd .add s74 (cn 1) w99,
qMov s99 w74] 2)))))))
(.seq (.region [qFad 1 s5 w100,
qLd s100 w101,
qFad 2 s5 w102,
qLd s102 w103,
seqO (r_buildSlice 1 2 [(.sc (.int .i64 0))] [(0,s101),(1,s103)] 2 104) w104,
seqO (r_callF 216 [s104] 0 105) w105,
qMov s105 w106,
gdO s106 true w107 (qFad 3 s5 w107),
gdO s106 true w108 (qLd s107 w108),
gdO s106 true w109 (seqO (r_len s108 0 109) w109),
gdO s106 true w110 (qBin bGtr .gtr s109 (cn 0) w110),
qPick s106 s110 cF w111,
qMov s111 w112,
gdO s112 true w113 (qFad 3 s5 w113),
gdO s112 true w114 (qLd s113 w114),
gdO s112 true w115 (seqO (r_len s114 0 115) w115),
gdO s112 true w116 (qBin bLeq .leq s115 (cn 8) w116),
qPick s112 s116 cF w117,
qMov s117 w4] 19)
.ret)))
.skip))))))))))
(.seq (.region [qMov cF w4] 1)
.ret))))),false⟩
def q158:QFn:=⟨1,[.t s2],
(.seq (.region [qMov (cK (.own [] .full)) w2] 1)
(.seq (.region [qMov s0 w10,
seqO (r_len s10 0 11) w11,
seqO (r_makeSlice 1 8 [(.sc (.int .i64 0))] s11 s11 0 12) w12,
seqO (r_mov s12 6 3) w3] 4)
(.seq (.seq (.region [qMov (cn 0) w13] 1)
(.block 0 (.loop (.seq (.region [qBin bLss .lss s13 (cn 4) w14] 1)
(.seq (.cond s14 .skip
(.exit 0))
(.seq (.block 1 (.seq (.region [qMov s0 w15,
seqO (r_len s15 0 16) w16,
seqO (r_makeSlice 1 8 [(.sc (.int .i64 0))] s16 s16 1 17) w17,
qMov s17 w4] 4)
(.seq (.seq (.region [qMov s0 w18,
seqO (r_len s18 0 19) w19,
qMov (cn 0) w20] 3)
(.block 2 (.loop (.seq (.region [qBin bLss .lss s20 s19 w21] 1)
(.seq (.cond s21 .skip
(.exit 2))
(.seq (.block 3 (.seq (.region [qMov s20 w22,
seqO (r_indexAddr 4 s18 s20 0 23) w23,
seqO (r_load 4 true s23 0 24) w24,
seqO (r_alloc [(.d (.sc (.int .u8 0))),(.d (.sc (.int .i64 0))),(.d (.sc (.int .i64 0))),(.own [] .full)] 0 6) w6,
qMov s22 w5,
seqO (r_store 4 s6 s24 0 0) wN] 6)
(.seq (.region [qMov (cn 1) w7] 1)
(.seq (.seq (.region [qFad 0 s6 w25,
qLd s25 w26] 2)
(.block 4 (.seq (.region [qBin bEql .eql s26 (cb 4) w28,
qMov s28 w27] 2)
(.cond s27 (.region [qMov s7 w29,
qMov s3 w30,
qFad 1 s6 w31,
qLd s31 w32,
seqO (r_indexAddr 1 s30 s32 0 33) w33,
qLd s33 w34,
qBin bAdd .add s29 s34 w35,
qMov s35 w7] 8)
(.seq (.region [qBin bEql .eql s26 (cb 7) w37,
qMov s37 w36] 2)
(.cond s36 (.region [qMov s7 w38,
qMov s3 w39,
qFad 1 s6 w40,
qLd s40 w41,
seqO (r_indexAddr 1 s39 s41 0 42) w42,
qLd s42 w43,
qBin (bGen .mul) .mul (cn 16) s43 w44,
qBin bAdd .add s38 s44 w45,
qMov s45 w7] 9)
(.seq (.region [qBin bEql .eql s26 (cb 6) w47,
qMov s47 w46] 2)
(.cond s46 (.draw [⟨r_mov s7 0 48,w48,0⟩,
⟨r_fieldAddr 2 s6 0 49,w49,0⟩,
⟨r_load 1 false s49 0 50,w50,2⟩,
⟨r_mov s4 0 51,w51,0⟩,
⟨r_fieldAddr 1 s6 0 52,w52,0⟩,
⟨r_load 1 false s52 0 53,w53,16⟩,
⟨r_indexAddr 1 s51 s53 0 54,w54,56⟩,
⟨r_load 1 false s54 0 55,w55,120⟩,
⟨r_bin .mul s50 s55 0 56,w56,254⟩,
⟨r_bin .add s48 s56 0 57,w57,511⟩,
⟨r_mov s57 0 7,w7,1023⟩] 11)
.skip))))))))
(.seq (.seq (.region [qFad 3 s6 w58,
qLd s58 w59,
seqO (r_len s59 0 60) w60,
qMov (cn 0) w61] 4)
(.block 5 (.loop (.seq (.region [qBin bLss .lss s61 s60 w62] 1)
(.seq (.cond s62 .skip
(.exit 5))
(.seq (.block 6 (.seq (.region [seqO (r_indexAddr 2 s59 s61 0 63) w63,
seqO (r_load 2 true s63 0 64) w64,
seqO (r_alloc [(.d (.sc (.string ⟨#[]⟩))),(.d (.sc (.int .i64 0)))] 0 9) w9,
seqO (r_store 2 s9 s64 0 0) wN] 4)
(.region [qMov s7 w65,
qMov s4 w66,
qFad 1 s9 w67,
qLd s67 w68,
seqO (r_indexAddr 1 s66 s68 0 69) w69,
qLd s69 w70,
qBin bAdd .add s65 s70 w71,
qMov s71 w7] 8)))
(.region [qBin bAdd .add s61 (cn 1) w72,
qMov s72 w61] 2)))))))
(.region [qMov s4 w73,
qMov s5 w74,
qMov s7 w75,
seqO (r_mini s75 (cn 5001) 0 76) w76,
seqO (r_indexAddr 1 s73 s74 0 77) w77,
seqO (r_store 1 s77 s76 0 0) wN] 6))))))
(.region [qBin bAdd .add s20 (cn 1) w78,
qMov s78 w20] 2)))))))
(.region [qMov s4 w79,
seqO (r_mov s79 6 3) w3] 2))))
(.region [qBin bAdd .add s13 (cn 1) w80,
qMov s80 w13] 2)))))))
(.seq (.region [qMov s3 w81,
qMov s81 w2] 2)
.ret)))),false⟩
def q159:QFn:=⟨2,[.t s4,.t s5],
(.seq (.region [qMov (cK (.own [] .full)) w4,
qMov (cn 0) w5] 2)
(.seq (.seq (.region [qMov s0 w8,
seqO (r_callF 94 [s8] 0 9) w9,
qMov s9 w6] 3)
(.seq (.region [qMov s6 w10,
qBin bNeq .neq s10 (cn 0) w11] 2)
(.cond s11 (.seq (.region [qMov s6 w12,
qMov (cK (.own [] .full)) w4,
qMov s12 w5] 3)
.ret)
.skip)))
(.seq (.seq (.region [qMov s1 w13,
qBin bLss .lss s13 (cn 0) w14,
qMov s14 w15,
gdO s15 false w16 (qMov s1 w16),
gdO s15 false w17 (qMov s0 w17),
gdO s15 false w18 (seqO (r_len s17 0 18) w18),
gdO s15 false w19 (qBin bGeq .geq s16 s18 w19),
qPick s15 cT s19 w20] 8)
(.cond s20 (.seq (.region [qMov (cK (.own [] .full)) w4,
qMov (cn 2) w5] 2)
.ret)
.skip))
(.seq (.region [qMov s0 w21,
seqO (r_call 217 [s21] 0 22) w22,
qMov s22 w7] 3)
(.seq (.seq (.region [qMov s7 w23,
qMov s1 w24,
seqO (r_indexAddr 2 s23 s24 0 25) w25,
qFad 0 s25 w26,
qLd s26 w27,
qBin bGtr .gtr s27 (cn 256) w28] 6)
(.cond s28 (.seq (.region [qMov (cK (.own [] .full)) w4,
qMov (cn 16) w5] 2)
.ret)
.skip))
(.seq (.region [qMov s7 w29,
qMov s29 w4,
qMov (cn 0) w5] 3)
.ret)))))),false⟩
def q160:QFn:=⟨1,[.t s2],
(.seq (.region [qMov cF w2] 1)
(.seq (.seq (.region [qMov s0 w5,
seqO (r_lenS s5 0 6) w6,
qBin bEql .eql s6 (cn 0) w7,
qMov s7 w8,
gdO s8 false w9 (qMov s0 w9),
gdO s8 false w10 (seqO (r_lenS s9 0 10) w10),
gdO s8 false w11 (qBin bGtr .gtr s10 (cn 16) w11),
qPick s8 cT s11 w12,
qMov s12 w13,
gdO s13 false w14 (qMov s0 w14),
gdO s13 false w15 (seqO (r_indexS s14 (cn 0) 0 15) w15),
gdO s13 false w16 (qBin bLeq .leq s15 (cb 57) w16),
qPick s13 cT s16 w17] 13)
(.cond s17 (.seq (.region [qMov cF w2] 1)
.ret)
.skip))
(.seq (.seq (.region [qMov s0 w18,
seqO (r_s2b s18 0 19) w19,
seqO (r_len s19 0 20) w20,
qMov (cn 0) w21] 4)
(.block 0 (.loop (.seq (.region [qBin bLss .lss s21 s20 w22] 1)
(.seq (.cond s22 .skip
(.exit 0))
(.seq (.block 1 (.seq (.region [seqO (r_indexAddr 1 s19 s21 0 23) w23,
qLd s23 w24,
qMov s24 w4] 3)
(.seq (.region [qMov s4 w25,
qBin (bGen .or) .or s25 (cb 32) w26,
qBin bLss .lss s26 (cb 97) w27,
qMov s27 w28,
gdO s28 false w29 (qMov s4 w29),
gdO s28 false w30 (qBin (bGen .or) .or s29 (cb 32) w30),
gdO s28 false w31 (qBin bGtr .gtr s30 (cb 122) w31),
qPick s28 cT s31 w32,
qMov s32 w33,
gdO s33 false w34 (qMov s4 w34),
gdO s33 false w35 (qBin (bGen .and) .and s34 (cb 64) w35),
gdO s33 false w36 (qBin bEql .eql s35 (cb 0) w36),
qPick s33 cT s36 w37,
qMov s37 w38,
gdO s38 true w39 (qMov s4 w39),
gdO s38 true w40 (qBin bLss .lss s39 (cb 48) w40),
gdO s38 true w41 (qMov s40 w41),
gdO s41 false w42 (qMov s4 w42),
gdO s41 false w43 (qBin bGtr .gtr s42 (cb 57) w43),
gdO s38 true w44 (qPick s41 cT s43 w44),
qPick s38 s44 cF w45] 21)
(.cond s45 (.seq (.region [qMov cF w2] 1)
.ret)
.skip))))
(.region [qBin bAdd .add s21 (cn 1) w46,
qMov s46 w21] 2)))))))
(.seq (.region [qMov cT w2] 1)
.ret)))),false⟩
def q161:QFn:=⟨1,[.t s2],
(.seq (.region [qMov cF w2] 1)
(.seq (.seq (.region [qMov s0 w5,
seqO (r_len s5 0 6) w6,
qMov (cn 0) w7] 3)
(.block 0 (.loop (.seq (.region [qBin bLss .lss s7 s6 w8] 1)
(.seq (.cond s8 .skip
(.exit 0))
(.seq (.block 1 (.seq (.region [qMov s7 w9,
seqO (r_indexAddr 2 s5 s7 0 10) w10,
seqO (r_load 2 true s10 0 11) w11,
seqO (r_alloc [(.d (.sc (.string ⟨#[]⟩))),(.d (.sc (.int .i64 0)))] 0 4) w4,
qMov s9 w3,
seqO (r_store 2 s4 s11 0 0) wN] 6)
(.seq (.region [qFad 0 s4 w12,
qLd s12 w13,
seqO (r_callF 160 [s13] 0 14) w14,
seqO (r_un .not s14 0 15) w15,
qMov s15 w16,
gdO s16 false w17 (qMov s0 w17),
gdO s16 false w18 (qMov s3 w18),
gdO s16 false w19 (seqO (r_slice 2 s17 none (some s18) none 0 19) w19),
gdO s16 false w20 (seqO (r_makeFunc 219 [s4] 0 20) w20),
gdO s16 false w21 (seqO (r_callF 218 [s19,s20] 0 21) w21),
qPick s16 cT s21 w22] 11)
(.cond s22 (.seq (.region [qMov cF w2] 1)
.ret)
.skip))))
(.region [qBin bAdd .add s7 (cn 1) w23,
qMov s23 w7] 2)))))))
(.seq (.region [qMov cT w2] 1)
.ret))),false⟩
def q162:QFn:=⟨2,[.t s4],
(.seq (.region [qMov (cn 0) w4] 1)
(.seq (.seq (.region [qMov s1 w6,
seqO (r_callF 156 [s6] 0 7) w7,
qMov s7 w5] 3)
(.seq (.region [qMov s5 w8,
qBin bNeq .neq s8 (cn 0) w9] 2)
(.cond s9 (.seq (.region [qMov s5 w10,
qMov s10 w4] 2)
.ret)
.skip)))
(.seq (.seq (.region [qMov s0 w11,
qMov s1 w12,
seqO (r_callF 220 [s11,s12] 0 13) w13,
seqO (r_un .not s13 0 14) w14] 4)
(.cond s14 (.seq (.region [qMov (cn 8) w4] 1)
.ret)
.skip))
(.seq (.region [qMov (cn 0) w4] 1)
.ret)))),false⟩
def q163:QFn:=⟨2,[],
(.region [qLd s1 w3,
qMov s0 w4,
seqO (r_buildSlice 1 1 [(.sc (.int .u8 0))] [(0,s4)] 0 5) w5,
seqO (r_append 1 1 s3 s5 10682761221 6) w6,
seqO (r_store 1 s1 s6 0 0) wN] 5),true⟩
def q171:QFn:=⟨1,[.t s2],
(.seq (.region [qMov (cn 0) w2] 1)
(.seq (.seq (.region [qMov s0 w3,
qBin bGeq .geq s3 (cu 4294967296) w4] 2)
(.cond s4 (.seq (.region [qMov s0 w5,
qBin (bGen .shr) .shr s5 (cu 32) w6,
qMov s6 w0] 3)
(.region [qMov (cn 32) w2] 1))
.skip))
(.seq (.seq (.region [qMov s0 w7,
qBin bGeq .geq s7 (cu 65536) w8] 2)
(.cond s8 (.seq (.region [qMov s0 w9,
qBin (bGen .shr) .shr s9 (cu 16) w10,
qMov s10 w0] 3)
(.region [qMov s2 w11,
qBin bAdd .add s11 (cn 16) w12,
qMov s12 w2] 3))
.skip))
(.seq (.seq (.region [qMov s0 w13,
qBin bGeq .geq s13 (cu 256) w14] 2)
(.cond s14 (.seq (.region [qMov s0 w15,
qBin (bGen .shr) .shr s15 (cu 8) w16,
qMov s16 w0] 3)
(.region [qMov s2 w17,
qBin bAdd .add s17 (cn 8) w18,
qMov s18 w2] 3))
.skip))
(.seq (.region [qMov s2 w19,
qMov s0 w20,
seqO (r_conv .u8 s20 0 21) w21,
seqO (r_indexS (cK (.d (.sc (.string ⟨#[0,1,2,2,3,3,3,3,4,4,4,4,4,4,4,4,5,5,5,5,5,5,5,5,5,5,5,5,5,5,5,5,6,6,6,6,6,6,6,6,6,6,6,6,6,6,6,6,6,6,6,6,6,6,6,6,6,6,6,6,6,6,6,6,7,7,7,7,7,7,7,7,7,7,7,7,7,7,7,7,7,7,7,7,7,7,7,7,7,7,7,7,7,7,7,7,7,7,7,7,7,7,7,7,7,7,7,7,7,7,7,7,7,7,7,7,7,7,7,7,7,7,7,7,7,7,7,7,8,8,8,8,8,8,8,8,8,8,8,8,8,8,8,8,8,8,8,8,8,8,8,8,8,8,8,8,8,8,8,8,8,8,8,8,8,8,8,8,8,8,8,8,8,8,8,8,8,8,8,8,8,8,8,8,8,8,8,8,8,8,8,8,8,8,8,8,8,8,8,8,8,8,8,8,8,8,8,8,8,8,8,8,8,8,8,8,8,8,8,8,8,8,8,8,8,8,8,8,8,8,8,8,8,8,8,8,8,8,8,8,8,8,8,8,8,8,8,8,8,8,8,8,8,8,8,8]⟩)))) s21 0 22) w22,
seqO (r_conv .i64 s22 0 23) w23,
qBin bAdd .add s19 s23 w24,
qMov s24 w2] 7)
.ret))))),false⟩
def q205:QFn:=⟨2,[.t s4],
(.seq (.region [qMov (cK (.own [] .full)) w4] 1)
(.seq (.seq (.region [qMov s0 w7,
qMov s1 w8,
seqO (r_indexAddr 4 s7 s8 0 9) w9,
seqO (r_load 4 true s9 0 10) w10,
seqO (r_alloc [(.d (.sc (.int .u8 0))),(.d (.sc (.int .i64 0))),(.d (.sc (.int .i64 0))),(.d (.sc (.int .i64 0)))] 0 5) w5,
seqO (r_store 4 s5 s10 0 0) wN] 6)
(.seq (.region [qFad 0 s5 w11,
qLd s11 w12] 2)
(.block 0 (.seq (.seq (.region [qBin bEql .eql s12 (cb 34) w14,
qMov s14 w13] 2)
(.cond s13 .skip
(.seq (.region [qBin bEql .eql s12 (cb 28) w15,
qMov s15 w13] 2)
(.cond s13 .skip
(.region [qBin bEql .eql s12 (cb 30) w16,
qMov s16 w13] 2)))))
(.cond s13 (.seq (.region [qMov (cK (.own [] .full)) w4] 1)
.ret)
(.seq (.region [qBin bEql .eql s12 (cb 22) w18,
qMov s18 w17] 2)
(.cond s17 (.seq (.region [qFad 1 s5 w19,
qLd s19 w20,
seqO (r_buildSlice 1 1 [(.sc (.int .i64 0))] [(0,s20)] 0 21) w21,
qMov s21 w4] 4)
.ret)
(.seq (.region [qBin bEql .eql s12 (cb 23) w23,
qMov s23 w22] 2)
(.cond s22 (.seq (.region [qMov s1 w24,
qBin bAdd .add s24 (cn 1) w25,
qFad 2 s5 w26,
qLd s26 w27,
seqO (r_buildSlice 1 2 [(.sc (.int .i64 0))] [(0,s25),(1,s27)] 1 28) w28,
qMov s28 w6] 6)
(.seq (.region [qMov s6 w29,
seqO (r_callF 248 [s29] 0 30) w30] 2)
(.seq (.region [qMov s6 w31,
seqO (r_call 249 [s31] 0 32) w32,
qMov s32 w4] 3)
.ret)))
.skip)))))))))
(.seq (.region [qMov s1 w33,
qBin bAdd .add s33 (cn 1) w34,
seqO (r_buildSlice 1 1 [(.sc (.int .i64 0))] [(0,s34)] 0 35) w35,
qMov s35 w4] 4)
.ret))),false⟩
def q206:QFn:=⟨2,[.t s4],
(.seq (.region [qMov cF w4] 1)
(.seq (.region [qMov s0 w5,
qMov s1 w6,
seqO (r_callF 250 [s5,s6] 0 7) w7,
qBin bGeq .geq s7 (cn 0) w8,
qMov s8 w4] 5)
.ret)),false⟩
def q207:QFn:=⟨2,[.t s3],
(.seq (.region [qMov cF w3] 1)
(.seq (.region [seqO (r_load 10 true s1 0 4) w4,
qMov s0 w5,
seqO (r_buildSlice 1 3 [(.sc (.int .u8 0))] [(0,(cb 1)),(1,(cb 2)),(2,(cb 4))] 2 6) w6,
seqO (r_callF 142 [s4,s5,s6] 0 7) w7,
qMov s7 w3] 5)
.ret)),true⟩
def q208:QFn:=⟨1,[.t s2],
(.seq (.region [seqO (r_mov (cK (.own [] .full)) 65540 2) w2] 1)
(.seq (.region [qMov s0 w3,
qMov s0 w4,
seqO (r_len s4 0 5) w5,
qMov s0 w6,
seqO (r_len s6 0 7) w7,
seqO (r_slice 1 s3 none (some s5) (some s7) 0 8) w8,
seqO (r_mov s8 65540 2) w2] 7)
.ret)),false⟩
def q209:QFn:=⟨1,[.t s2,.t s3],
(.seq (.region [qMov (cn 0) w2,
qMov (cn 0) w3] 2)
(.seq (.seq (.region [qMov s0 w4,
qBin bLss .lss s4 (cn 0) w5,
qMov s5 w6,
gdO s6 false w7 (qMov s0 w7),
gdO s6 false w8 (qBin bGtr .gtr s7 (cn 1073741824) w8),
qPick s6 cT s8 w9] 6)
(.cond s9 (.seq (.region [qMov (cn 0) w2,
qMov (cn 2) w3] 2)
.ret)
.skip))
(.seq (.region [qMov s0 w10,
qBin bAdd .add s10 (cn 7) w11,
qBin (bGen .andNot) .andNot s11 (cn 7) w12,
qMov s12 w2,
qMov (cn 0) w3] 5)
.ret))),false⟩
def q210:QFn:=⟨3,[],
(.region [seqO (r_sliceB 3 4 s1 0 4) w4,
qMov s0 w5,
seqO (r_copy 4 s4 s5 0 6) w6,
seqO (r_store 1 s2 s6 0 0) wN] 4),true⟩
def q211:QFn:=⟨0,[.cell s0 4 true],
(.seq (.region [seqO (r_alloc [(.d (.sc (.int .i64 0))),(.d (.sc (.int .i64 0))),(.d (.sc (.bool false))),(.d (.sc (.bool false)))] 0 0) w0] 1)
(.seq (.region [seqO (r_build [(.d (.sc (.int .i64 0))),(.d (.sc (.int .i64 0))),(.d (.sc (.bool false))),(.d (.sc (.bool false)))] [(0,1,(cn 0)),(1,1,(cn 15)),(2,1,cF),(3,1,cT)] 0 1) w1,
seqO (r_store 4 s0 s1 0 0) wN] 2)
.ret)),false⟩
def q212:QFn:=⟨0,[.cell s0 4 true],
(.seq (.region [seqO (r_alloc [(.d (.sc (.int .i64 0))),(.d (.sc (.int .i64 0))),(.d (.sc (.bool false))),(.d (.sc (.bool false)))] 0 0) w0] 1)
(.seq (.region [seqO (r_build [(.d (.sc (.int .i64 0))),(.d (.sc (.int .i64 0))),(.d (.sc (.bool false))),(.d (.sc (.bool false)))] [(0,1,(cm 9223372036854775807)),(1,1,(cn 9223372036854775807)),(2,1,cF),(3,1,cF)] 0 1) w1,
seqO (r_store 4 s0 s1 0 0) wN] 2)
.ret)),false⟩
def q213:QFn:=⟨1,[.cell s2 4 true],
(.seq (.region [seqO (r_alloc [(.d (.sc (.int .i64 0))),(.d (.sc (.int .i64 0))),(.d (.sc (.bool false))),(.d (.sc (.bool false)))] 0 2) w2] 1)
(.seq (.region [qMov s0 w3,
qBin bSub .sub s3 (cn 1) w4,
seqO (r_build [(.d (.sc (.int .i64 0))),(.d (.sc (.int .i64 0))),(.d (.sc (.bool false))),(.d (.sc (.bool false)))] [(0,1,(cn 0)),(1,1,s4),(2,1,cF),(3,1,cF)] 0 5) w5,
seqO (r_store 4 s2 s5 0 0) wN] 4)
.ret)),false⟩
def q214:QFn:=⟨0,[.cell s0 4 true],
(.seq (.region [seqO (r_alloc [(.d (.sc (.int .i64 0))),(.d (.sc (.int .i64 0))),(.d (.sc (.bool false))),(.d (.sc (.bool false)))] 0 0) w0] 1)
(.seq (.region [seqO (r_build [(.d (.sc (.int .i64 0))),(.d (.sc (.int .i64 0))),(.d (.sc (.bool false))),(.d (.sc (.bool false)))] [(0,1,(cn 0)),(1,1,(cn 15)),(2,1,cT),(3,1,cF)] 0 1) w1,
seqO (r_store 4 s0 s1 0 0) wN] 2)
.ret)),false⟩
def q215:QFn:=⟨2,[.t s4],
(.seq (.region [qMov cF w4] 1)
(.seq (.region [qMov s0 w5,
qBin bGeq .geq s5 (cn 0) w6,
qMov s6 w7,
gdO s7 true w8 (qMov s0 w8),
gdO s7 true w9 (qMov s1 w9),
gdO s7 true w10 (qBin bLss .lss s8 s9 w10),
qPick s7 s10 cF w11,
qMov s11 w4] 8)
.ret)),false⟩
def q216:QFn:=⟨1,[.t s2],
(.seq (.region [qMov cF w2] 1)
(.seq (.region [qMov s0 w3,
seqO (r_callF 38 [s3,(cK (.clo 251 []))] 0 4) w4,
seqO (r_un .not s4 0 5) w5,
qMov s5 w2] 4)
.ret)),false⟩
def q217:QFn:=⟨1,[.t s2],
(.seq (.region [qMov (cK (.own [] .full)) w2] 1)
(.seq (.region [qMov s0 w7,
seqO (r_len s7 0 8) w8,
seqO (r_makeSlice 2 16 [(.sc (.int .i64 0)),(.sc (.int .i64 0))] s8 s8 1 9) w9,
qMov s9 w3] 4)
(.seq (.seq (.region [qMov s0 w10,
seqO (r_len s10 0 11) w11,
qMov (cn 0) w12] 3)
(.block 0 (.loop (.seq (.region [qBin bLss .lss s12 s11 w13] 1)
(.seq (.cond s13 .skip
(.exit 0))
(.seq (.block 1 (.seq (.region [qMov s12 w14,
seqO (r_indexAddr 4 s10 s12 0 15) w15,
seqO (r_load 4 true s15 0 16) w16,
seqO (r_alloc [(.d (.sc (.int .u8 0))),(.d (.sc (.int .i64 0))),(.d (.sc (.int .i64 0))),(.own [] .full)] 0 5) w5,
qMov s14 w4,
seqO (r_store 4 s5 s16 0 0) wN] 6)
(.seq (.region [qFad 0 s5 w17,
qLd s17 w18] 2)
(.block 2 (.seq (.region [qBin bEql .eql s18 (cb 1) w20,
qMov s20 w19] 2)
(.cond s19 (.region [qMov s3 w21,
qMov s4 w22,
seqO (r_build [(.d (.sc (.int .i64 0))),(.d (.sc (.int .i64 0)))] [(0,1,(cn 1)),(1,1,(cn 1))] 0 23) w23,
seqO (r_indexAddr 2 s21 s22 0 24) w24,
seqO (r_store 2 s24 s23 0 0) wN] 5)
(.seq (.seq (.region [qBin bEql .eql s18 (cb 2) w26,
qMov s26 w25] 2)
(.cond s25 .skip
(.region [qBin bEql .eql s18 (cb 4) w27,
qMov s27 w25] 2)))
(.cond s25 (.region [qMov s3 w28,
qMov s4 w29,
seqO (r_build [(.d (.sc (.int .i64 0))),(.d (.sc (.int .i64 0)))] [(0,1,(cn 8)),(1,1,(cn 8))] 0 30) w30,
seqO (r_indexAddr 2 s28 s29 0 31) w31,
seqO (r_store 2 s31 s30 0 0) wN] 5)
(.seq (.region [qBin bEql .eql s18 (cb 3) w33,
qMov s33 w32] 2)
(.cond s32 (.region [qMov s3 w34,
qMov s4 w35,
seqO (r_build [(.d (.sc (.int .i64 0))),(.d (.sc (.int .i64 0)))] [(0,1,(cn 16)),(1,1,(cn 8))] 0 36) w36,
seqO (r_indexAddr 2 s34 s35 0 37) w37,
seqO (r_store 2 s37 s36 0 0) wN] 5)
(.seq (.region [qBin bEql .eql s18 (cb 7) w39,
qMov s39 w38] 2)
(.cond s38 (.region [qMov s3 w40,
qMov s4 w41,
seqO (r_build [(.d (.sc (.int .i64 0))),(.d (.sc (.int .i64 0)))] [(0,1,(cn 24)),(1,1,(cn 8))] 0 42) w42,
seqO (r_indexAddr 2 s40 s41 0 43) w43,
seqO (r_store 2 s43 s42 0 0) wN] 5)
(.seq (.region [qBin bEql .eql s18 (cb 6) w45,
qMov s45 w44] 2)
(.cond s44 (.seq (.region [qMov s3 w46,
qFad 1 s5 w47,
qLd s47 w48,
seqO (r_indexAddr 2 s46 s48 0 49) w49,
seqO (r_load 2 true s49 0 50) w50,
seqO (r_alloc [(.d (.sc (.int .i64 0))),(.d (.sc (.int .i64 0)))] 0 6) w6,
seqO (r_store 2 s6 s50 0 0) wN] 7)
(.region [qMov s3 w51,
qMov s4 w52,
qFad 2 s5 w53,
qLd s53 w54,
qFad 0 s6 w55,
qLd s55 w56,
qBin (bGen .mul) .mul s54 s56 w57,
seqO (r_mini (cn 1048576) s57 0 58) w58,
qFad 1 s6 w59,
qLd s59 w60,
seqO (r_build [(.d (.sc (.int .i64 0))),(.d (.sc (.int .i64 0)))] [(0,1,s58),(1,1,s60)] 0 61) w61,
seqO (r_indexAddr 2 s51 s52 0 62) w62,
seqO (r_store 2 s62 s61 0 0) wN] 13))
(.seq (.region [qBin bEql .eql s18 (cb 5) w64,
qMov s64 w63] 2)
(.cond s63 (.region [qMov s3 w66,
qMov s4 w67,
qMov s3 w68,
qFad 3 s5 w69,
qLd s69 w70,
seqO (r_call 252 [s68,s70] 0 71) w71,
qMov s71 w65,
seqO (r_extract s65 0 0 72) w72,
seqO (r_extract s65 1 0 73) w73,
seqO (r_indexAddr 2 s66 s67 0 74) w74,
seqO (r_store 2 s74 s73 0 0) wN] 11)
.skip))))))))))))))))
(.region [qBin bAdd .add s12 (cn 1) w75,
qMov s75 w12] 2)))))))
(.seq (.region [qMov s3 w76,
qMov s76 w2] 2)
.ret)))),false⟩
def q218:QFn:=⟨2,[.t s4],
(.seq (.region [qMov cF w4] 1)
(.seq (.region [qMov s0 w5,
qMov s1 w6,
seqO (r_callF 253 [s5,s6] 0 7) w7,
qBin bGeq .geq s7 (cn 0) w8,
qMov s8 w4] 5)
.ret)),true⟩
def q219:QFn:=⟨2,[.t s3],
(.seq (.region [seqO (r_box s0 0 2) w2,
qMov cF w3] 2)
(.seq (.region [qFad 0 s2 w4,
qLd s4 w5,
qFad 0 s1 w6,
qLd s6 w7,
qBin bEql .eql s5 s7 w8,
qMov s8 w3] 6)
.ret)),true⟩
def q220:QFn:=⟨2,[.t s4],
(.seq (.region [qMov cF w4] 1)
(.seq (.seq (.region [qMov s0 w8,
seqO (r_len s8 0 9) w9,
qBin bEql .eql s9 (cn 0) w10,
qMov s10 w11,
gdO s11 false w12 (qMov s0 w12),
gdO s11 false w13 (seqO (r_indexAddr 2 s12 (cn 0) 0 13) w13),
gdO s11 false w14 (qFad 0 s13 w14),
gdO s11 false w15 (qLd s14 w15),
gdO s11 false w16 (qBin bNeq .neq s15 (cn 0) w16),
qPick s11 cT s16 w17,
qMov s17 w18,
gdO s18 false w19 (qMov s0 w19),
gdO s18 false w20 (qMov s0 w20),
gdO s18 false w21 (seqO (r_len s20 0 21) w21),
gdO s18 false w22 (qBin bSub .sub s21 (cn 1) w22),
gdO s18 false w23 (seqO (r_indexAddr 2 s19 s22 0 23) w23),
gdO s18 false w24 (qFad 0 s23 w24),
gdO s18 false w25 (qLd s24 w25),
gdO s18 false w26 (qMov s1 w26),
gdO s18 false w27 (qBin bGeq .geq s25 s26 w27),
qPick s18 cT s27 w28] 21)
(.cond s28 (.seq (.region [qMov cF w4] 1)
.ret)
.skip))
(.seq (.region [qMov s0 w29,
seqO (r_indexAddr 2 s29 (cn 0) 0 30) w30,
seqO (r_load 2 true s30 0 31) w31,
seqO (r_alloc [(.d (.sc (.int .i64 0))),(.d (.sc (.int .u64 0)))] 0 5) w5,
seqO (r_store 2 s5 s31 0 0) wN] 5)
(.seq (.seq (.region [qMov s0 w32,
seqO (r_slice 2 s32 (some (cn 1)) none none 0 33) w33,
seqO (r_len s33 0 34) w34,
qMov (cn 0) w35] 4)
(.block 0 (.loop (.seq (.region [qBin bLss .lss s35 s34 w36] 1)
(.seq (.cond s36 .skip
(.exit 0))
(.seq (.block 1 (.seq (.region [seqO (r_indexAddr 2 s33 s35 0 37) w37,
seqO (r_load 2 true s37 0 38) w38,
seqO (r_alloc [(.d (.sc (.int .i64 0))),(.d (.sc (.int .u64 0)))] 0 7) w7,
seqO (r_store 2 s7 s38 0 0) wN] 4)
(.seq (.seq (.region [qFad 0 s7 w39,
qLd s39 w40,
qFad 0 s5 w41,
qLd s41 w42,
qBin bLeq .leq s40 s42 w43,
qMov s43 w44,
gdO s44 false w45 (seqO (r_load 2 true s7 0 45) w45),
gdO s44 false w46 (qFad 0 s7 w46),
gdO s44 false w47 (qLd s46 w47),
gdO s44 false w48 (qFad 1 s5 w48),
gdO s44 false w49 (qLd s48 w49),
gdO s44 false w50 (seqO (r_build [(.d (.sc (.int .i64 0))),(.d (.sc (.int .u64 0)))] [(0,1,s47),(1,1,s49)] 0 50) w50),
gdO s44 false w51 (seqO (r_eqA false 2 [(0,1),(1,1)] s45 s50 0 51) w51),
qPick s44 cT s51 w52] 14)
(.cond s52 (.seq (.region [qMov cF w4] 1)
.ret)
.skip))
(.region [seqO (r_load 2 true s7 0 53) w53,
seqO (r_store 2 s5 s53 0 0) wN] 2))))
(.region [qBin bAdd .add s35 (cn 1) w54,
qMov s54 w35] 2)))))))
(.seq (.region [qMov cT w4] 1)
.ret))))),false⟩
def q248:QFn:=⟨1,[],
(.seq (.region [qMov s0 w3,
seqO (r_len s3 0 4) w4,
qMov s4 w2] 3)
(.region [qMov s0 w5,
qMov s2 w6,
qMov s2 w7,
seqO (r_conv .u64 s7 0 8) w8,
seqO (r_callF 259 [s8] 0 9) w9,
seqO (r_callF 258 [s5,(cn 0),s6,s9] 0 10) w10] 6)),true⟩
def q249:QFn:=⟨1,[.t s2],
(.seq (.region [qMov (cK (.own [] .full)) w2] 1)
(.seq (.seq (.region [qMov s0 w6,
seqO (r_len s6 0 7) w7,
qBin bLss .lss s7 (cn 2) w8] 3)
(.cond s8 (.seq (.region [qMov s0 w9,
qMov s9 w2] 2)
.ret)
.skip))
(.seq (.seq (.region [qMov (cn 1) w3] 1)
(.block 0 (.loop (.seq (.seq (.region [qMov s3 w10,
qMov s0 w11,
seqO (r_len s11 0 12) w12,
qBin bLss .lss s10 s12 w13] 4)
(.cond s13 .skip
(.exit 0)))
(.seq (.block 1 (.seq (.draw [⟨r_mov s0 0 16,w16,0⟩,
⟨r_mov s3 0 17,w17,0⟩,
⟨r_indexAddr 1 s16 s17 0 18,w18,3⟩,
⟨r_load 1 false s18 0 19,w19,7⟩,
⟨r_mov s0 0 20,w20,0⟩,
⟨r_mov s3 0 21,w21,0⟩,
⟨r_bin .sub s21 (cn 1) 0 22,w22,32⟩,
⟨r_indexAddr 1 s20 s22 0 23,w23,112⟩,
⟨r_load 1 false s23 0 24,w24,240⟩,
⟨r_bin .eql s19 s24 0 25,w25,511⟩] 10)
(.cond s25 (.seq (.region [qMov s0 w26,
qMov s3 w27,
seqO (r_slice 1 s26 (some s27) none none 0 28) w28,
qMov s28 w4] 4)
(.seq (.seq (.region [qMov (cn 1) w5] 1)
(.block 2 (.loop (.seq (.seq (.region [qMov s5 w29,
qMov s4 w30,
seqO (r_len s30 0 31) w31,
qBin bLss .lss s29 s31 w32] 4)
(.cond s32 .skip
(.exit 2)))
(.seq (.block 3 (.seq (.draw [⟨r_mov s4 0 35,w35,0⟩,
⟨r_mov s5 0 36,w36,0⟩,
⟨r_indexAddr 1 s35 s36 0 37,w37,3⟩,
⟨r_load 1 false s37 0 38,w38,7⟩,
⟨r_mov s4 0 39,w39,0⟩,
⟨r_mov s5 0 40,w40,0⟩,
⟨r_bin .sub s40 (cn 1) 0 41,w41,32⟩,
⟨r_indexAddr 1 s39 s41 0 42,w42,112⟩,
⟨r_load 1 false s42 0 43,w43,240⟩,
⟨r_bin .neq s38 s43 0 44,w44,511⟩] 10)
(.cond s44 (.seq (.region [qMov s0 w45,
qMov s3 w46,
qMov s4 w47,
qMov s5 w48,
seqO (r_indexAddr 1 s47 s48 0 49) w49,
qLd s49 w50,
seqO (r_indexAddr 1 s45 s46 0 51) w51,
seqO (r_store 1 s51 s50 0 0) wN] 8)
(.region [qMov s3 w52,
qBin bAdd .add s52 (cn 1) w53,
qMov s53 w3] 3))
.skip)))
(.region [qMov s5 w33,
qBin bAdd .add s33 (cn 1) w34,
qMov s34 w5] 3))))))
(.seq (.region [qMov s0 w54,
qMov s3 w55,
seqO (r_slice 1 s54 (some s55) none none 0 56) w56,
seqO (r_clear 1 [(.sc (.int .i64 0))] s56 0 0) wN] 4)
(.seq (.region [qMov s0 w57,
qMov s3 w58,
seqO (r_slice 1 s57 none (some s58) none 0 59) w59,
qMov s59 w2] 4)
.ret))))
.skip)))
(.region [qMov s3 w14,
qBin bAdd .add s14 (cn 1) w15,
qMov s15 w3] 3))))))
(.seq (.region [qMov s0 w60,
qMov s60 w2] 2)
.ret)))),true⟩
def q250:QFn:=⟨2,[.t s4],
(.seq (.region [qMov (cn 0) w4] 1)
(.seq (.seq (.region [qMov s0 w6,
seqO (r_len s6 0 7) w7,
qMov (cn 0) w8] 3)
(.block 0 (.loop (.seq (.region [qBin bLss .lss s8 s7 w9] 1)
(.seq (.cond s9 .skip
(.exit 0))
(.seq (.block 1 (.seq (.region [qMov s8 w10,
qMov s10 w5] 2)
(.seq (.region [qMov s1 w11,
qMov s0 w12,
qMov s5 w13,
seqO (r_indexAddr 1 s12 s13 0 14) w14,
qLd s14 w15,
qBin bEql .eql s11 s15 w16] 6)
(.cond s16 (.seq (.region [qMov s5 w17,
qMov s17 w4] 2)
.ret)
.skip))))
(.region [qBin bAdd .add s8 (cn 1) w18,
qMov s18 w8] 2)))))))
(.seq (.region [qMov (cm 0) w4] 1)
.ret))),false⟩
def q251:QFn:=⟨1,[.t s2],
(.seq (.region [qMov cF w2] 1)
(.seq (.region [qMov s0 w3,
qBin bNeq .neq s3 (cn 0) w4,
qMov s4 w2] 3)
.ret)),false⟩
def q252:QFn:=⟨2,[.t s4,.cell s5 2 true],
(.seq (.region [qMov (cK (.own [] .full)) w4,
seqO (r_alloc [(.d (.sc (.int .i64 0))),(.d (.sc (.int .i64 0)))] 0 5) w5] 2)
(.seq (.region [qMov s1 w11,
seqO (r_len s11 0 12) w12,
seqO (r_makeSlice 1 8 [(.sc (.int .i64 0))] s12 s12 1 13) w13,
seqO (r_build [(.d (.sc (.int .i64 0))),(.d (.sc (.int .i64 0)))] [(0,1,(cn 0)),(1,1,(cn 1))] 0 14) w14,
seqO (r_alloc [(.d (.sc (.int .i64 0))),(.d (.sc (.int .i64 0)))] 0 7) w7,
qMov s13 w6,
seqO (r_store 2 s7 s14 0 0) wN] 7)
(.seq (.seq (.region [qMov s1 w15,
seqO (r_len s15 0 16) w16,
qMov (cn 0) w17] 3)
(.block 0 (.loop (.seq (.region [qBin bLss .lss s17 s16 w18] 1)
(.seq (.cond s18 .skip
(.exit 0))
(.seq (.block 1 (.seq (.region [qMov s17 w19,
seqO (r_indexAddr 2 s15 s17 0 20) w20,
seqO (r_load 2 true s20 0 21) w21,
seqO (r_alloc [(.d (.sc (.string ⟨#[]⟩))),(.d (.sc (.int .i64 0)))] 0 9) w9,
qMov s19 w8,
seqO (r_store 2 s9 s21 0 0) wN] 6)
(.seq (.region [qMov s0 w22,
qFad 1 s9 w23,
qLd s23 w24,
seqO (r_indexAddr 2 s22 s24 0 25) w25,
seqO (r_load 2 true s25 0 26) w26,
seqO (r_alloc [(.d (.sc (.int .i64 0))),(.d (.sc (.int .i64 0)))] 0 10) w10,
seqO (r_store 2 s10 s26 0 0) wN] 7)
(.seq (.region [qMov s6 w27,
qMov s8 w28,
qFad 0 s7 w29,
qLd s29 w30,
qFad 1 s10 w31,
qLd s31 w32,
qBin bAdd .add s30 s32 w33,
qBin bSub .sub s33 (cn 1) w34,
qFad 1 s10 w35,
qLd s35 w36,
qBin bSub .sub s36 (cn 1) w37,
qBin (bGen .andNot) .andNot s34 s37 w38,
seqO (r_indexAddr 1 s27 s28 0 39) w39,
seqO (r_store 1 s39 s38 0 0) wN] 14)
(.draw [⟨r_mov s6 0 40,w40,0⟩,
⟨r_mov s8 0 41,w41,0⟩,
⟨r_indexAddr 1 s40 s41 0 42,w42,3⟩,
⟨r_load 1 false s42 0 43,w43,7⟩,
⟨r_fieldAddr 0 s10 0 44,w44,0⟩,
⟨r_load 1 false s44 0 45,w45,16⟩,
⟨r_bin .add s43 s45 0 46,w46,63⟩,
⟨r_mini (cn 1048576) s46 0 47,w47,127⟩,
⟨r_fieldAddr 1 s7 0 48,w48,0⟩,
⟨r_load 1 false s48 0 49,w49,256⟩,
⟨r_fieldAddr 1 s10 0 50,w50,0⟩,
⟨r_load 1 false s50 0 51,w51,1024⟩,
⟨r_maxi s49 s51 0 52,w52,3840⟩,
⟨r_build [(.d (.sc (.int .i64 0))),(.d (.sc (.int .i64 0)))] [(0,1,s47),(1,1,s52)] 0 53,w53,8191⟩,
⟨r_store 2 s7 s53 0 0,wN,16383⟩] 15)))))
(.region [qBin bAdd .add s17 (cn 1) w54,
qMov s54 w17] 2)))))))
(.seq (.region [qFad 0 s7 w55,
qLd s55 w56,
qFad 1 s7 w57,
qLd s57 w58,
qBin bAdd .add s56 s58 w59,
qBin bSub .sub s59 (cn 1) w60,
qFad 1 s7 w61,
qLd s61 w62,
qBin bSub .sub s62 (cn 1) w63,
qBin (bGen .andNot) .andNot s60 s63 w64,
qFad 0 s7 w65,
seqO (r_store 1 s65 s64 0 0) wN] 12)
(.seq (.draw [⟨r_mov s6 0 66,w66,0⟩,
⟨r_load 2 true s7 0 67,w67,0⟩,
⟨r_mov s66 0 4,w4,1⟩,
⟨r_store 2 s5 s67 0 0,wN,7⟩] 4)
.ret))))),false⟩
def q253:QFn:=⟨2,[.t s4],
(.seq (.region [qMov (cn 0) w4] 1)
(.seq (.seq (.region [qMov s0 w6,
seqO (r_len s6 0 7) w7,
qMov (cn 0) w8] 3)
(.block 0 (.loop (.seq (.region [qBin bLss .lss s8 s7 w9] 1)
(.seq (.cond s9 .skip
(.exit 0))
(.seq (.block 1 (.seq (.region [qMov s8 w10,
qMov s10 w5] 2)
(.seq (.region [qMov s1 w11,
qMov s0 w12,
qMov s5 w13,
seqO (r_indexAddr 2 s12 s13 0 14) w14,
seqO (r_load 2 true s14 0 15) w15,
seqO (r_callv s11 [s15] 0 16) w16] 6)
(.cond s16 (.seq (.region [qMov s5 w17,
qMov s17 w4] 2)
.ret)
.skip))))
(.region [qBin bAdd .add s8 (cn 1) w18,
qMov s18 w8] 2)))))))
(.seq (.region [qMov (cm 0) w4] 1)
.ret))),true⟩
def q258:QFn:=⟨4,[],
(.seq (.region [qMov cT w8] 1)
(.seq (.region [qMov cT w9] 1)
(.block 0 (.loop (.block 1 (.seq (.region [qMov s2 w19,
qMov s1 w20,
qBin bSub .sub s19 s20 w21,
qMov s21 w10] 4)
(.seq (.seq (.region [qMov s10 w22,
qBin bLeq .leq s22 (cn 12) w23] 2)
(.cond s23 (.seq (.region [qMov s0 w24,
qMov s1 w25,
qMov s2 w26,
seqO (r_callF 260 [s24,s25,s26] 0 27) w27] 4)
.ret)
.skip))
(.seq (.seq (.region [qMov s3 w28,
qBin bEql .eql s28 (cn 0) w29] 2)
(.cond s29 (.seq (.region [qMov s0 w30,
qMov s1 w31,
qMov s2 w32,
seqO (r_callF 261 [s30,s31,s32] 0 33) w33] 4)
.ret)
.skip))
(.seq (.seq (.region [qMov s8 w34,
seqO (r_un .not s34 0 35) w35] 2)
(.cond s35 (.seq (.region [qMov s0 w36,
qMov s1 w37,
qMov s2 w38,
seqO (r_callF 262 [s36,s37,s38] 0 39) w39] 4)
(.region [qMov s3 w40,
qBin bSub .sub s40 (cn 1) w41,
qMov s41 w3] 3))
.skip))
(.seq (.region [qMov s0 w43,
qMov s1 w44,
qMov s2 w45,
seqO (r_callF 263 [s43,s44,s45] 0 46) w46,
qMov s46 w42,
seqO (r_extract s42 0 0 47) w47,
seqO (r_extract s42 1 0 48) w48,
qMov s47 w11,
qMov s48 w12] 9)
(.seq (.seq (.region [qMov s12 w49,
qBin bEql .eql s49 (cn 2) w50] 2)
(.cond s50 (.seq (.region [qMov s0 w51,
qMov s1 w52,
qMov s2 w53,
seqO (r_callF 264 [s51,s52,s53] 0 54) w54] 4)
(.seq (.region [qMov s2 w55,
qBin bSub .sub s55 (cn 1) w56,
qMov s11 w57,
qMov s1 w58,
qBin bSub .sub s57 s58 w59,
qBin bSub .sub s56 s59 w60,
qMov s60 w11] 7)
(.region [qMov (cn 1) w12] 1)))
.skip))
(.seq (.seq (.region [qMov s8 w61,
qMov s61 w62,
gdO s62 true w63 (qMov s9 w63),
qPick s62 s63 cF w64,
qMov s64 w65,
gdO s65 true w66 (qMov s12 w66),
gdO s65 true w67 (qBin bEql .eql s66 (cn 1) w67),
qPick s65 s67 cF w68] 8)
(.cond s68 (.seq (.region [qMov s0 w69,
qMov s1 w70,
qMov s2 w71,
seqO (r_callF 265 [s69,s70,s71] 0 72) w72] 4)
(.cond s72 .ret
.skip))
.skip))
(.seq (.seq (.draw [⟨r_mov s1 0 73,w73,0⟩,
⟨r_bin .gtr s73 (cn 0) 0 74,w74,1⟩,
⟨r_mov s74 0 75,w75,3⟩,
⟨gdR s75 true (r_mov s0 0 76),w76,7⟩,
⟨gdR s75 true (r_mov s1 0 77),w77,7⟩,
⟨gdR s75 true (r_bin .sub s77 (cn 1) 0 78),w78,23⟩,
⟨gdR s75 true (r_indexAddr 1 s76 s78 0 79),w79,63⟩,
⟨gdR s75 true (r_load 1 false s79 0 80),w80,127⟩,
⟨gdR s75 true (r_mov s0 0 81),w81,7⟩,
⟨gdR s75 true (r_mov s11 0 82),w82,7⟩,
⟨gdR s75 true (r_indexAddr 1 s81 s82 0 83),w83,775⟩,
⟨gdR s75 true (r_load 1 false s83 0 84),w84,1799⟩,
⟨gdR s75 true (r_callF 266 [s80,s84] 0 85),w85,4095⟩,
⟨gdR s75 true (r_un .not s85 0 86),w86,8191⟩,
⟨r_pick s75 s86 cF 0 87,w87,16383⟩] 15)
(.cond s87 (.seq (.region [qMov s0 w88,
qMov s1 w89,
qMov s2 w90,
qMov s11 w91,
seqO (r_callF 267 [s88,s89,s90,s91] 0 92) w92,
qMov s92 w13] 6)
(.seq (.region [qMov s13 w93,
qMov s93 w1] 2)
(.exit 1)))
.skip))
(.seq (.region [qMov s0 w95,
qMov s1 w96,
qMov s2 w97,
qMov s11 w98,
seqO (r_callF 268 [s95,s96,s97,s98] 0 99) w99,
qMov s99 w94,
seqO (r_extract s94 0 0 100) w100,
seqO (r_extract s94 1 0 101) w101,
qMov s100 w14,
qMov s101 w15] 10)
(.seq (.region [qMov s15 w102,
qMov s102 w9] 2)
(.seq (.region [qMov s14 w103,
qMov s1 w104,
qBin bSub .sub s103 s104 w105,
qMov s2 w106,
qMov s14 w107,
qBin bSub .sub s106 s107 w108,
qMov s105 w16,
qMov s108 w17] 8)
(.seq (.region [qMov s10 w109,
qBin (bGen .quo) .quo s109 (cn 8) w110,
qMov s110 w18] 3)
(.seq (.region [qMov s16 w111,
qMov s17 w112,
qBin bLss .lss s111 s112 w113] 3)
(.cond s113 (.seq (.region [qMov s16 w114,
qMov s18 w115,
qBin bGeq .geq s114 s115 w116,
qMov s116 w8] 4)
(.seq (.region [qMov s0 w117,
qMov s1 w118,
qMov s14 w119,
qMov s3 w120,
seqO (r_callF 258 [s117,s118,s119,s120] 0 121) w121] 5)
(.region [qMov s14 w122,
qBin bAdd .add s122 (cn 1) w123,
qMov s123 w1] 3)))
(.seq (.region [qMov s17 w124,
qMov s18 w125,
qBin bGeq .geq s124 s125 w126,
qMov s126 w8] 4)
(.seq (.region [qMov s0 w127,
qMov s14 w128,
qBin bAdd .add s128 (cn 1) w129,
qMov s2 w130,
qMov s3 w131,
seqO (r_callF 258 [s127,s129,s130,s131] 0 132) w132] 6)
(.region [qMov s14 w133,
qMov s133 w2] 2)))))))))))))))))))))),true⟩
def q259:QFn:=⟨1,[.t s2],
(.seq (.region [qMov (cn 0) w2] 1)
(.seq (.cond cF (.seq (.region [qMov s0 w3,
seqO (r_conv .u32 s3 0 4) w4,
seqO (r_callF 269 [s4] 0 5) w5,
qMov s5 w2] 4)
.ret)
.skip)
(.seq (.region [qMov s0 w6,
seqO (r_callF 171 [s6] 0 7) w7,
qMov s7 w2] 3)
.ret))),false⟩
def q260:QFn:=⟨3,[],
(.seq (.region [qMov s1 w8,
qBin bAdd .add s8 (cn 1) w9,
qMov s9 w6] 3)
(.block 0 (.loop (.seq (.seq (.region [qMov s6 w10,
qMov s2 w11,
qBin bLss .lss s10 s11 w12] 3)
(.cond s12 .skip
(.exit 0)))
(.seq (.block 1 (.seq (.region [qMov s6 w15,
qMov s15 w7] 2)
(.block 2 (.loop (.seq (.seq (.draw [⟨r_mov s7 0 16,w16,0⟩,
⟨r_mov s1 0 17,w17,0⟩,
⟨r_bin .gtr s16 s17 0 18,w18,3⟩,
⟨r_mov s18 0 19,w19,7⟩,
⟨gdR s19 true (r_mov s0 0 20),w20,15⟩,
⟨gdR s19 true (r_mov s7 0 21),w21,15⟩,
⟨gdR s19 true (r_indexAddr 1 s20 s21 0 22),w22,63⟩,
⟨gdR s19 true (r_load 1 false s22 0 23),w23,127⟩,
⟨gdR s19 true (r_mov s0 0 24),w24,15⟩,
⟨gdR s19 true (r_mov s7 0 25),w25,15⟩,
⟨gdR s19 true (r_bin .sub s25 (cn 1) 0 26),w26,527⟩,
⟨gdR s19 true (r_indexAddr 1 s24 s26 0 27),w27,1807⟩,
⟨gdR s19 true (r_load 1 false s27 0 28),w28,3855⟩,
⟨gdR s19 true (r_callF 266 [s23,s28] 0 29),w29,8191⟩,
⟨r_pick s19 s29 cF 0 30,w30,16383⟩] 15)
(.cond s30 .skip
(.exit 2)))
(.seq (.block 3 (.draw [⟨r_mov s0 0 33,w33,0⟩,
⟨r_mov s7 0 34,w34,0⟩,
⟨r_mov s0 0 35,w35,0⟩,
⟨r_mov s7 0 36,w36,0⟩,
⟨r_bin .sub s36 (cn 1) 0 37,w37,8⟩,
⟨r_mov s0 0 38,w38,0⟩,
⟨r_mov s7 0 39,w39,0⟩,
⟨r_bin .sub s39 (cn 1) 0 40,w40,64⟩,
⟨r_indexAddr 1 s38 s40 0 41,w41,224⟩,
⟨r_load 1 false s41 0 42,w42,480⟩,
⟨r_mov s0 0 43,w43,0⟩,
⟨r_mov s7 0 44,w44,0⟩,
⟨r_indexAddr 1 s43 s44 0 45,w45,3072⟩,
⟨r_load 1 false s45 0 46,w46,7168⟩,
⟨r_indexAddr 1 s33 s34 0 47,w47,16355⟩,
⟨r_store 1 s47 s42 0 0,wN,32739⟩,
⟨r_indexAddr 1 s35 s37 0 48,w48,65535⟩,
⟨r_store 1 s48 s46 0 0,wN,131071⟩] 18))
(.region [qMov s7 w31,
qBin bSub .sub s31 (cn 1) w32,
qMov s32 w7] 3)))))))
(.region [qMov s6 w13,
qBin bAdd .add s13 (cn 1) w14,
qMov s14 w6] 3)))))),true⟩
def q266:QFn:=⟨2,[.t s4],
(.seq (.region [qMov cF w4] 1)
(.seq (.region [qMov s0 w5,
seqO (r_callF 275 [s5] 0 6) w6,
qMov s6 w7,
gdO s7 true w8 (qMov s1 w8),
gdO s7 true w9 (seqO (r_callF 275 [s8] 0 9) w9),
gdO s7 true w10 (seqO (r_un .not s9 0 10) w10),
qPick s7 s10 cF w11,
qMov s11 w12,
gdO s12 false w13 (qMov s0 w13),
gdO s12 false w14 (qMov s1 w14),
gdO s12 false w15 (qBin bLss .lss s13 s14 w15),
qPick s12 cT s15 w16,
qMov s16 w4] 13)
.ret)),false⟩
def q275:QFn:=⟨1,[.t s2],
(.seq (.region [qMov cF w2] 1)
(.seq (.region [qMov s0 w3,
qMov s0 w4,
qBin bNeq .neq s3 s4 w5,
qMov s5 w2] 4)
.ret)),false⟩
def md:Nat→Eng.Mode:=fun f=>match f with
 |7=>⟨[],false⟩
 |9=>⟨[],false⟩
 |11=>⟨[],false⟩
 |12=>⟨[(100,2),(110,2),(120,2)],false⟩
 |13=>⟨[(11,262145),(44,9)],false⟩
 |14=>⟨[],false⟩
 |16=>⟨[],false⟩
 |18=>⟨[],false⟩
 |19=>⟨[],false⟩
 |20=>⟨[],false⟩
 |21=>⟨[],false⟩
 |22=>⟨[],false⟩
 |25=>⟨[],false⟩
 |26=>⟨[(4,262148),(5,262148),(68,1)],false⟩
 |27=>⟨[(11,1)],false⟩
 |29=>⟨[],false⟩
 |30=>⟨[],false⟩
 |31=>⟨[],false⟩
 |32=>⟨[],false⟩
 |35=>⟨[],false⟩
 |36=>⟨[],false⟩
 |37=>⟨[],false⟩
 |38=>⟨[],true⟩
 |39=>⟨[],false⟩
 |40=>⟨[],false⟩
 |46=>⟨[],false⟩
 |47=>⟨[],false⟩
 |53=>⟨[],false⟩
 |57=>⟨[],false⟩
 |58=>⟨[],false⟩
 |59=>⟨[],false⟩
 |60=>⟨[],true⟩
 |61=>⟨[],false⟩
 |62=>⟨[],true⟩
 |63=>⟨[],true⟩
 |64=>⟨[],true⟩
 |65=>⟨[],true⟩
 |76=>⟨[],false⟩
 |77=>⟨[],false⟩
 |78=>⟨[],false⟩
 |87=>⟨[(13,1)],false⟩
 |88=>⟨[(13,65537)],false⟩
 |89=>⟨[(37,2),(86,2),(119,2),(126,2),(133,2),(139,2),(152,2),(165,2),(182,2),(218,2)],false⟩
 |90=>⟨[(45,3),(105,1),(28,1),(25,1),(91,1),(31,1)],false⟩
 |91=>⟨[(74,1),(39,1)],false⟩
 |92=>⟨[(2,65540),(38,1)],false⟩
 |93=>⟨[],false⟩
 |94=>⟨[],false⟩
 |95=>⟨[],false⟩
 |96=>⟨[],false⟩
 |97=>⟨[],true⟩
 |98=>⟨[(2,65540)],false⟩
 |99=>⟨[],false⟩
 |100=>⟨[],false⟩
 |101=>⟨[(20,65537)],false⟩
 |133=>⟨[],false⟩
 |134=>⟨[(24,3),(40,1),(10,1)],true⟩
 |135=>⟨[],true⟩
 |136=>⟨[],false⟩
 |137=>⟨[],false⟩
 |138=>⟨[],false⟩
 |139=>⟨[],false⟩
 |140=>⟨[],true⟩
 |141=>⟨[(6,2)],true⟩
 |142=>⟨[],false⟩
 |143=>⟨[(6,2)],true⟩
 |146=>⟨[],false⟩
 |147=>⟨[(63,3),(19,65537)],false⟩
 |148=>⟨[],false⟩
 |149=>⟨[],false⟩
 |150=>⟨[],false⟩
 |151=>⟨[],false⟩
 |152=>⟨[],true⟩
 |153=>⟨[],false⟩
 |154=>⟨[],false⟩
 |155=>⟨[],false⟩
 |156=>⟨[],false⟩
 |157=>⟨[(27,2),(44,2),(65,2),(104,2)],false⟩
 |158=>⟨[(3,6),(17,1)],false⟩
 |159=>⟨[],false⟩
 |160=>⟨[],false⟩
 |161=>⟨[],false⟩
 |162=>⟨[],false⟩
 |163=>⟨[(6,10682761221)],true⟩
 |171=>⟨[],false⟩
 |205=>⟨[(28,1)],false⟩
 |206=>⟨[],false⟩
 |207=>⟨[(6,2)],true⟩
 |208=>⟨[(2,65540)],false⟩
 |209=>⟨[],false⟩
 |210=>⟨[],true⟩
 |211=>⟨[],false⟩
 |212=>⟨[],false⟩
 |213=>⟨[],false⟩
 |214=>⟨[],false⟩
 |215=>⟨[],false⟩
 |216=>⟨[],false⟩
 |217=>⟨[(9,1)],false⟩
 |218=>⟨[],true⟩
 |219=>⟨[],true⟩
 |220=>⟨[],false⟩
 |248=>⟨[],true⟩
 |249=>⟨[],true⟩
 |250=>⟨[],false⟩
 |251=>⟨[],false⟩
 |252=>⟨[(13,1)],false⟩
 |253=>⟨[],true⟩
 |258=>⟨[],true⟩
 |259=>⟨[],false⟩
 |260=>⟨[],true⟩
 |266=>⟨[],false⟩
 |275=>⟨[],false⟩
 |_=>⟨[],false⟩
def lib:Nat→Option TypeId:=fun f=>match f with
 |79=>some 38
 |80=>some 39
 |_=>none
theorem clone79:IsClone Tryz.prog 79 38:=⟨_,Tryz.func79,by kernel_rfl,by kernel_rfl,by kernel_rfl,by kernel_rfl⟩
theorem clone80:IsClone Tryz.prog 80 39:=⟨_,Tryz.func80,by kernel_rfl,by kernel_rfl,by kernel_rfl,by kernel_rfl⟩
theorem libOK:∀ f T,lib f=some T→IsLib Tryz.prog f T:=by
 intro f T h
 unfold lib at h
 split at h
 ·injection h with h;subst h;exact⟨fun _ _=>clone79,fun h=>absurd h (by decide),fun h=>absurd h (by decide)⟩
 ·injection h with h;subst h;exact⟨fun _ _=>clone80,fun h=>absurd h (by decide),fun h=>absurd h (by decide)⟩
 ·cases h
def tabT:Tr QFn:=(.nd none (.nd none (.nd none (.nd (some q7) (.nd none (.nd (some q31) (.nd (some q63) .lf .lf) (.nd (some q95) (.nd (some q159) .lf .lf) .lf)) (.nd (some q47) (.nd none (.nd (some q143) .lf .lf) (.nd (some q207) .lf .lf)) .lf)) (.nd none (.nd (some q39) (.nd none (.nd (some q135) .lf .lf) .lf) .lf) (.nd none (.nd (some q87) (.nd (some q151) .lf .lf) (.nd (some q215) .lf .lf)) .lf))) (.nd (some q11) (.nd (some q19) (.nd (some q35) (.nd none (.nd none (.nd (some q259) .lf .lf) .lf) .lf) (.nd (some q99) (.nd (some q163) .lf .lf) .lf)) (.nd none (.nd none (.nd (some q147) (.nd (some q275) .lf .lf) .lf) (.nd (some q211) .lf .lf)) .lf)) (.nd (some q27) (.nd none (.nd none (.nd (some q139) .lf .lf) .lf) (.nd none (.nd (some q171) .lf .lf) .lf)) (.nd (some q59) (.nd (some q91) (.nd (some q155) .lf .lf) (.nd (some q219) .lf .lf)) (.nd none .lf (.nd (some q251) .lf .lf)))))) (.nd none (.nd (some q9) (.nd none (.nd none (.nd (some q65) .lf .lf) (.nd (some q97) (.nd (some q161) .lf .lf) .lf)) (.nd none (.nd none .lf (.nd (some q209) .lf .lf)) .lf)) (.nd (some q25) (.nd none (.nd none (.nd (some q137) .lf .lf) .lf) .lf) (.nd (some q57) (.nd (some q89) (.nd (some q153) .lf .lf) (.nd (some q217) .lf .lf)) (.nd none .lf (.nd (some q249) .lf .lf))))) (.nd (some q13) (.nd (some q21) (.nd (some q37) (.nd none (.nd (some q133) .lf .lf) .lf) (.nd (some q101) .lf .lf)) (.nd (some q53) (.nd none (.nd (some q149) .lf .lf) (.nd (some q213) .lf .lf)) .lf)) (.nd (some q29) (.nd none (.nd (some q77) (.nd (some q141) .lf .lf) (.nd (some q205) .lf .lf)) .lf) (.nd (some q61) (.nd (some q93) (.nd (some q157) .lf .lf) .lf) (.nd none .lf (.nd (some q253) .lf .lf))))))) (.nd none (.nd none (.nd none (.nd (some q16) (.nd (some q32) (.nd (some q64) .lf .lf) (.nd (some q96) (.nd (some q160) .lf .lf) .lf)) (.nd none (.nd none .lf (.nd (some q208) .lf .lf)) .lf)) (.nd none (.nd (some q40) (.nd none (.nd (some q136) .lf .lf) .lf) .lf) (.nd none (.nd (some q88) (.nd (some q152) .lf .lf) (.nd (some q216) .lf .lf)) (.nd none .lf (.nd (some q248) .lf .lf))))) (.nd (some q12) (.nd (some q20) (.nd (some q36) (.nd none (.nd none (.nd (some q260) .lf .lf) .lf) .lf) (.nd (some q100) .lf .lf)) (.nd none (.nd none (.nd (some q148) .lf .lf) (.nd (some q212) .lf .lf)) .lf)) (.nd none (.nd none (.nd (some q76) (.nd (some q140) .lf .lf) .lf) .lf) (.nd (some q60) (.nd (some q92) (.nd (some q156) .lf .lf) (.nd (some q220) .lf .lf)) (.nd none .lf (.nd (some q252) .lf .lf)))))) (.nd none (.nd none (.nd (some q18) (.nd none (.nd none (.nd none (.nd (some q258) .lf .lf) .lf) .lf) (.nd (some q98) (.nd (some q162) .lf .lf) .lf)) (.nd none (.nd none (.nd (some q146) .lf .lf) (.nd (some q210) .lf .lf)) .lf)) (.nd (some q26) (.nd none (.nd none (.nd (some q138) (.nd (some q266) .lf .lf) .lf) .lf) .lf) (.nd (some q58) (.nd (some q90) (.nd (some q154) .lf .lf) (.nd (some q218) .lf .lf)) (.nd none .lf (.nd (some q250) .lf .lf))))) (.nd (some q14) (.nd (some q22) (.nd (some q38) (.nd none (.nd (some q134) .lf .lf) .lf) .lf) (.nd none (.nd none (.nd (some q150) .lf .lf) (.nd (some q214) .lf .lf)) .lf)) (.nd (some q30) (.nd (some q46) (.nd (some q78) (.nd (some q142) .lf .lf) (.nd (some q206) .lf .lf)) .lf) (.nd (some q62) (.nd (some q94) (.nd (some q158) .lf .lf) .lf) .lf))))))
def tab:Nat→Option QFn:=getTr tabT
theorem ok7:(fnP Tryz.prog lib md 7).bind compF=some q7:=by kernel_rfl
theorem ok9:(fnP Tryz.prog lib md 9).bind compF=some q9:=by kernel_rfl
theorem ok11:(fnP Tryz.prog lib md 11).bind compF=some q11:=by kernel_rfl
theorem ok12:(fnP Tryz.prog lib md 12).bind compF=some q12:=by kernel_rfl
theorem ok13:(fnP Tryz.prog lib md 13).bind compF=some q13:=by kernel_rfl
theorem ok14:(fnP Tryz.prog lib md 14).bind compF=some q14:=by kernel_rfl
theorem ok16:(fnP Tryz.prog lib md 16).bind compF=some q16:=by kernel_rfl
theorem ok18:(fnP Tryz.prog lib md 18).bind compF=some q18:=by kernel_rfl
theorem ok19:(fnP Tryz.prog lib md 19).bind compF=some q19:=by kernel_rfl
theorem ok20:(fnP Tryz.prog lib md 20).bind compF=some q20:=by kernel_rfl
theorem ok21:(fnP Tryz.prog lib md 21).bind compF=some q21:=by kernel_rfl
theorem ok22:(fnP Tryz.prog lib md 22).bind compF=some q22:=by kernel_rfl
theorem ok25:(fnP Tryz.prog lib md 25).bind compF=some q25:=by kernel_rfl
theorem ok26:(fnP Tryz.prog lib md 26).bind compF=some q26:=by kernel_rfl
theorem ok27:(fnP Tryz.prog lib md 27).bind compF=some q27:=by kernel_rfl
theorem ok29:(fnP Tryz.prog lib md 29).bind compF=some q29:=by kernel_rfl
theorem ok30:(fnP Tryz.prog lib md 30).bind compF=some q30:=by kernel_rfl
theorem ok31:(fnP Tryz.prog lib md 31).bind compF=some q31:=by kernel_rfl
theorem ok32:(fnP Tryz.prog lib md 32).bind compF=some q32:=by kernel_rfl
theorem ok35:(fnP Tryz.prog lib md 35).bind compF=some q35:=by kernel_rfl
theorem ok36:(fnP Tryz.prog lib md 36).bind compF=some q36:=by kernel_rfl
theorem ok37:(fnP Tryz.prog lib md 37).bind compF=some q37:=by kernel_rfl
theorem ok38:(fnP Tryz.prog lib md 38).bind compF=some q38:=by kernel_rfl
theorem ok39:(fnP Tryz.prog lib md 39).bind compF=some q39:=by kernel_rfl
theorem ok40:(fnP Tryz.prog lib md 40).bind compF=some q40:=by kernel_rfl
theorem ok46:(fnP Tryz.prog lib md 46).bind compF=some q46:=by kernel_rfl
theorem ok47:(fnP Tryz.prog lib md 47).bind compF=some q47:=by kernel_rfl
theorem ok53:(fnP Tryz.prog lib md 53).bind compF=some q53:=by kernel_rfl
theorem ok57:(fnP Tryz.prog lib md 57).bind compF=some q57:=by kernel_rfl
theorem ok58:(fnP Tryz.prog lib md 58).bind compF=some q58:=by kernel_rfl
theorem ok59:(fnP Tryz.prog lib md 59).bind compF=some q59:=by kernel_rfl
theorem ok60:(fnP Tryz.prog lib md 60).bind compF=some q60:=by kernel_rfl
theorem ok61:(fnP Tryz.prog lib md 61).bind compF=some q61:=by kernel_rfl
theorem ok62:(fnP Tryz.prog lib md 62).bind compF=some q62:=by kernel_rfl
theorem ok63:(fnP Tryz.prog lib md 63).bind compF=some q63:=by kernel_rfl
theorem ok64:(fnP Tryz.prog lib md 64).bind compF=some q64:=by kernel_rfl
theorem ok65:(fnP Tryz.prog lib md 65).bind compF=some q65:=by kernel_rfl
theorem ok76:(fnP Tryz.prog lib md 76).bind compF=some q76:=by kernel_rfl
theorem ok77:(fnP Tryz.prog lib md 77).bind compF=some q77:=by kernel_rfl
theorem ok78:(fnP Tryz.prog lib md 78).bind compF=some q78:=by kernel_rfl
theorem ok87:(fnP Tryz.prog lib md 87).bind compF=some q87:=by kernel_rfl
theorem ok88:(fnP Tryz.prog lib md 88).bind compF=some q88:=by kernel_rfl
theorem ok89:(fnP Tryz.prog lib md 89).bind compF=some q89:=by kernel_rfl
theorem ok90:(fnP Tryz.prog lib md 90).bind compF=some q90:=by kernel_rfl
theorem ok91:(fnP Tryz.prog lib md 91).bind compF=some q91:=by kernel_rfl
theorem ok92:(fnP Tryz.prog lib md 92).bind compF=some q92:=by kernel_rfl
theorem ok93:(fnP Tryz.prog lib md 93).bind compF=some q93:=by kernel_rfl
theorem ok94:(fnP Tryz.prog lib md 94).bind compF=some q94:=by kernel_rfl
theorem ok95:(fnP Tryz.prog lib md 95).bind compF=some q95:=by kernel_rfl
theorem ok96:(fnP Tryz.prog lib md 96).bind compF=some q96:=by kernel_rfl
theorem ok97:(fnP Tryz.prog lib md 97).bind compF=some q97:=by kernel_rfl
theorem ok98:(fnP Tryz.prog lib md 98).bind compF=some q98:=by kernel_rfl
theorem ok99:(fnP Tryz.prog lib md 99).bind compF=some q99:=by kernel_rfl
theorem ok100:(fnP Tryz.prog lib md 100).bind compF=some q100:=by kernel_rfl
theorem ok101:(fnP Tryz.prog lib md 101).bind compF=some q101:=by kernel_rfl
theorem ok133:(fnP Tryz.prog lib md 133).bind compF=some q133:=by kernel_rfl
theorem ok134:(fnP Tryz.prog lib md 134).bind compF=some q134:=by kernel_rfl
theorem ok135:(fnP Tryz.prog lib md 135).bind compF=some q135:=by kernel_rfl
theorem ok136:(fnP Tryz.prog lib md 136).bind compF=some q136:=by kernel_rfl
theorem ok137:(fnP Tryz.prog lib md 137).bind compF=some q137:=by kernel_rfl
theorem ok138:(fnP Tryz.prog lib md 138).bind compF=some q138:=by kernel_rfl
theorem ok139:(fnP Tryz.prog lib md 139).bind compF=some q139:=by kernel_rfl
theorem ok140:(fnP Tryz.prog lib md 140).bind compF=some q140:=by kernel_rfl
theorem ok141:(fnP Tryz.prog lib md 141).bind compF=some q141:=by kernel_rfl
theorem ok142:(fnP Tryz.prog lib md 142).bind compF=some q142:=by kernel_rfl
theorem ok143:(fnP Tryz.prog lib md 143).bind compF=some q143:=by kernel_rfl
theorem ok146:(fnP Tryz.prog lib md 146).bind compF=some q146:=by kernel_rfl
theorem ok147:(fnP Tryz.prog lib md 147).bind compF=some q147:=by kernel_rfl
theorem ok148:(fnP Tryz.prog lib md 148).bind compF=some q148:=by kernel_rfl
theorem ok149:(fnP Tryz.prog lib md 149).bind compF=some q149:=by kernel_rfl
theorem ok150:(fnP Tryz.prog lib md 150).bind compF=some q150:=by kernel_rfl
theorem ok151:(fnP Tryz.prog lib md 151).bind compF=some q151:=by kernel_rfl
theorem ok152:(fnP Tryz.prog lib md 152).bind compF=some q152:=by kernel_rfl
theorem ok153:(fnP Tryz.prog lib md 153).bind compF=some q153:=by kernel_rfl
theorem ok154:(fnP Tryz.prog lib md 154).bind compF=some q154:=by kernel_rfl
theorem ok155:(fnP Tryz.prog lib md 155).bind compF=some q155:=by kernel_rfl
theorem ok156:(fnP Tryz.prog lib md 156).bind compF=some q156:=by kernel_rfl
theorem ok157:(fnP Tryz.prog lib md 157).bind compF=some q157:=by kernel_rfl
theorem ok158:(fnP Tryz.prog lib md 158).bind compF=some q158:=by kernel_rfl
theorem ok159:(fnP Tryz.prog lib md 159).bind compF=some q159:=by kernel_rfl
theorem ok160:(fnP Tryz.prog lib md 160).bind compF=some q160:=by kernel_rfl
theorem ok161:(fnP Tryz.prog lib md 161).bind compF=some q161:=by kernel_rfl
theorem ok162:(fnP Tryz.prog lib md 162).bind compF=some q162:=by kernel_rfl
theorem ok163:(fnP Tryz.prog lib md 163).bind compF=some q163:=by kernel_rfl
theorem ok171:(fnP Tryz.prog lib md 171).bind compF=some q171:=by kernel_rfl
theorem ok205:(fnP Tryz.prog lib md 205).bind compF=some q205:=by kernel_rfl
theorem ok206:(fnP Tryz.prog lib md 206).bind compF=some q206:=by kernel_rfl
theorem ok207:(fnP Tryz.prog lib md 207).bind compF=some q207:=by kernel_rfl
theorem ok208:(fnP Tryz.prog lib md 208).bind compF=some q208:=by kernel_rfl
theorem ok209:(fnP Tryz.prog lib md 209).bind compF=some q209:=by kernel_rfl
theorem ok210:(fnP Tryz.prog lib md 210).bind compF=some q210:=by kernel_rfl
theorem ok211:(fnP Tryz.prog lib md 211).bind compF=some q211:=by kernel_rfl
theorem ok212:(fnP Tryz.prog lib md 212).bind compF=some q212:=by kernel_rfl
theorem ok213:(fnP Tryz.prog lib md 213).bind compF=some q213:=by kernel_rfl
theorem ok214:(fnP Tryz.prog lib md 214).bind compF=some q214:=by kernel_rfl
theorem ok215:(fnP Tryz.prog lib md 215).bind compF=some q215:=by kernel_rfl
theorem ok216:(fnP Tryz.prog lib md 216).bind compF=some q216:=by kernel_rfl
theorem ok217:(fnP Tryz.prog lib md 217).bind compF=some q217:=by kernel_rfl
theorem ok218:(fnP Tryz.prog lib md 218).bind compF=some q218:=by kernel_rfl
theorem ok219:(fnP Tryz.prog lib md 219).bind compF=some q219:=by kernel_rfl
theorem ok220:(fnP Tryz.prog lib md 220).bind compF=some q220:=by kernel_rfl
theorem ok248:(fnP Tryz.prog lib md 248).bind compF=some q248:=by kernel_rfl
theorem ok249:(fnP Tryz.prog lib md 249).bind compF=some q249:=by kernel_rfl
theorem ok250:(fnP Tryz.prog lib md 250).bind compF=some q250:=by kernel_rfl
theorem ok251:(fnP Tryz.prog lib md 251).bind compF=some q251:=by kernel_rfl
theorem ok252:(fnP Tryz.prog lib md 252).bind compF=some q252:=by kernel_rfl
theorem ok253:(fnP Tryz.prog lib md 253).bind compF=some q253:=by kernel_rfl
theorem ok258:(fnP Tryz.prog lib md 258).bind compF=some q258:=by kernel_rfl
theorem ok259:(fnP Tryz.prog lib md 259).bind compF=some q259:=by kernel_rfl
theorem ok260:(fnP Tryz.prog lib md 260).bind compF=some q260:=by kernel_rfl
theorem ok266:(fnP Tryz.prog lib md 266).bind compF=some q266:=by kernel_rfl
theorem ok275:(fnP Tryz.prog lib md 275).bind compF=some q275:=by kernel_rfl
theorem tabAll:AllT (fun f q=>(fnP Tryz.prog lib md f).bind compF=some q) tabT:=⟨trivial,⟨trivial,⟨trivial,⟨ok7,⟨trivial,⟨ok31,⟨ok63,trivial,trivial⟩,⟨ok95,⟨ok159,trivial,trivial⟩,trivial⟩⟩,⟨ok47,⟨trivial,⟨ok143,trivial,trivial⟩,⟨ok207,trivial,trivial⟩⟩,trivial⟩⟩,⟨trivial,⟨ok39,⟨trivial,⟨ok135,trivial,trivial⟩,trivial⟩,trivial⟩,⟨trivial,⟨ok87,⟨ok151,trivial,trivial⟩,⟨ok215,trivial,trivial⟩⟩,trivial⟩⟩⟩,⟨ok11,⟨ok19,⟨ok35,⟨trivial,⟨trivial,⟨ok259,trivial,trivial⟩,trivial⟩,trivial⟩,⟨ok99,⟨ok163,trivial,trivial⟩,trivial⟩⟩,⟨trivial,⟨trivial,⟨ok147,⟨ok275,trivial,trivial⟩,trivial⟩,⟨ok211,trivial,trivial⟩⟩,trivial⟩⟩,⟨ok27,⟨trivial,⟨trivial,⟨ok139,trivial,trivial⟩,trivial⟩,⟨trivial,⟨ok171,trivial,trivial⟩,trivial⟩⟩,⟨ok59,⟨ok91,⟨ok155,trivial,trivial⟩,⟨ok219,trivial,trivial⟩⟩,⟨trivial,trivial,⟨ok251,trivial,trivial⟩⟩⟩⟩⟩⟩,⟨trivial,⟨ok9,⟨trivial,⟨trivial,⟨ok65,trivial,trivial⟩,⟨ok97,⟨ok161,trivial,trivial⟩,trivial⟩⟩,⟨trivial,⟨trivial,trivial,⟨ok209,trivial,trivial⟩⟩,trivial⟩⟩,⟨ok25,⟨trivial,⟨trivial,⟨ok137,trivial,trivial⟩,trivial⟩,trivial⟩,⟨ok57,⟨ok89,⟨ok153,trivial,trivial⟩,⟨ok217,trivial,trivial⟩⟩,⟨trivial,trivial,⟨ok249,trivial,trivial⟩⟩⟩⟩⟩,⟨ok13,⟨ok21,⟨ok37,⟨trivial,⟨ok133,trivial,trivial⟩,trivial⟩,⟨ok101,trivial,trivial⟩⟩,⟨ok53,⟨trivial,⟨ok149,trivial,trivial⟩,⟨ok213,trivial,trivial⟩⟩,trivial⟩⟩,⟨ok29,⟨trivial,⟨ok77,⟨ok141,trivial,trivial⟩,⟨ok205,trivial,trivial⟩⟩,trivial⟩,⟨ok61,⟨ok93,⟨ok157,trivial,trivial⟩,trivial⟩,⟨trivial,trivial,⟨ok253,trivial,trivial⟩⟩⟩⟩⟩⟩⟩,⟨trivial,⟨trivial,⟨trivial,⟨ok16,⟨ok32,⟨ok64,trivial,trivial⟩,⟨ok96,⟨ok160,trivial,trivial⟩,trivial⟩⟩,⟨trivial,⟨trivial,trivial,⟨ok208,trivial,trivial⟩⟩,trivial⟩⟩,⟨trivial,⟨ok40,⟨trivial,⟨ok136,trivial,trivial⟩,trivial⟩,trivial⟩,⟨trivial,⟨ok88,⟨ok152,trivial,trivial⟩,⟨ok216,trivial,trivial⟩⟩,⟨trivial,trivial,⟨ok248,trivial,trivial⟩⟩⟩⟩⟩,⟨ok12,⟨ok20,⟨ok36,⟨trivial,⟨trivial,⟨ok260,trivial,trivial⟩,trivial⟩,trivial⟩,⟨ok100,trivial,trivial⟩⟩,⟨trivial,⟨trivial,⟨ok148,trivial,trivial⟩,⟨ok212,trivial,trivial⟩⟩,trivial⟩⟩,⟨trivial,⟨trivial,⟨ok76,⟨ok140,trivial,trivial⟩,trivial⟩,trivial⟩,⟨ok60,⟨ok92,⟨ok156,trivial,trivial⟩,⟨ok220,trivial,trivial⟩⟩,⟨trivial,trivial,⟨ok252,trivial,trivial⟩⟩⟩⟩⟩⟩,⟨trivial,⟨trivial,⟨ok18,⟨trivial,⟨trivial,⟨trivial,⟨ok258,trivial,trivial⟩,trivial⟩,trivial⟩,⟨ok98,⟨ok162,trivial,trivial⟩,trivial⟩⟩,⟨trivial,⟨trivial,⟨ok146,trivial,trivial⟩,⟨ok210,trivial,trivial⟩⟩,trivial⟩⟩,⟨ok26,⟨trivial,⟨trivial,⟨ok138,⟨ok266,trivial,trivial⟩,trivial⟩,trivial⟩,trivial⟩,⟨ok58,⟨ok90,⟨ok154,trivial,trivial⟩,⟨ok218,trivial,trivial⟩⟩,⟨trivial,trivial,⟨ok250,trivial,trivial⟩⟩⟩⟩⟩,⟨ok14,⟨ok22,⟨ok38,⟨trivial,⟨ok134,trivial,trivial⟩,trivial⟩,trivial⟩,⟨trivial,⟨trivial,⟨ok150,trivial,trivial⟩,⟨ok214,trivial,trivial⟩⟩,trivial⟩⟩,⟨ok30,⟨ok46,⟨ok78,⟨ok142,trivial,trivial⟩,⟨ok206,trivial,trivial⟩⟩,trivial⟩,⟨ok62,⟨ok94,⟨ok158,trivial,trivial⟩,trivial⟩,trivial⟩⟩⟩⟩⟩⟩
theorem tabOK (f:Nat) (q:QFn) (h:tab f=some q):(fnP Tryz.prog lib md f).bind compF=some q:=AllT.get tabAll f q (by rw[←getTr_eq];exact h)
end
end Go.Proofs.YtnhbhdopamdgpaaGreatDoor
