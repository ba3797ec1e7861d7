/- A part of the proof: R12sa, R12sb, R12sc, R12sd. -/
import Derived.Test.YtnhbhdopamdgpaaGreatDoorD12s
namespace Go.Proofs.YtnhbhdopamdgpaaGreatDoor
open Go Go.Eng
set_option maxRecDepth 100000
noncomputable section
theorem r0_0:(runQ O6 tab 20000 7 [.d (.sc (.int .u8 (Int.ofNat 0))),.d (.sc (.int .u8 (Int.ofNat 0)))] [.lf] .lf 0).map (·.1)=some (.d (.sc (.bool true))):=by kernel_rfl
theorem r0_1:(runQ O6 tab 20000 7 [.d (.sc (.int .u8 (Int.ofNat 0))),.d (.sc (.int .u8 (Int.ofNat 1)))] [.lf] .lf 0).map (·.1)=some (.d (.sc (.bool true))):=by kernel_rfl
theorem r0_2:(runQ O6 tab 20000 7 [.d (.sc (.int .u8 (Int.ofNat 0))),.d (.sc (.int .u8 (Int.ofNat 2)))] [.lf] .lf 0).map (·.1)=some (.d (.sc (.bool true))):=by kernel_rfl
theorem r0_3:(runQ O6 tab 20000 7 [.d (.sc (.int .u8 (Int.ofNat 0))),.d (.sc (.int .u8 (Int.ofNat 3)))] [.lf] .lf 0).map (·.1)=some (.d (.sc (.bool true))):=by kernel_rfl
theorem r0_4:(runQ O6 tab 20000 7 [.d (.sc (.int .u8 (Int.ofNat 0))),.d (.sc (.int .u8 (Int.ofNat 4)))] [.lf] .lf 0).map (·.1)=some (.d (.sc (.bool true))):=by kernel_rfl
theorem r0_5:(runQ O6 tab 20000 7 [.d (.sc (.int .u8 (Int.ofNat 0))),.d (.sc (.int .u8 (Int.ofNat 5)))] [.lf] .lf 0).map (·.1)=some (.d (.sc (.bool true))):=by kernel_rfl
theorem r0_6:(runQ O6 tab 20000 7 [.d (.sc (.int .u8 (Int.ofNat 0))),.d (.sc (.int .u8 (Int.ofNat 6)))] [.lf] .lf 0).map (·.1)=some (.d (.sc (.bool true))):=by kernel_rfl
theorem r0_7:(runQ O6 tab 20000 7 [.d (.sc (.int .u8 (Int.ofNat 0))),.d (.sc (.int .u8 (Int.ofNat 7)))] [.lf] .lf 0).map (·.1)=some (.d (.sc (.bool true))):=by kernel_rfl
theorem r0_8:(runQ O6 tab 20000 7 [.d (.sc (.int .u8 (Int.ofNat 0))),.d (.sc (.int .u8 (Int.ofNat 8)))] [.lf] .lf 0).map (·.1)=some (.d (.sc (.bool true))):=by kernel_rfl
theorem r0_9 (l:Nat):(runQ O6 tab 20000 7 [.d (.sc (.int .u8 (Int.ofNat 0))),.d (.sc (.int .u8 (Int.ofNat (l+9))))] [.lf] .lf 0).map (·.1)=some (.d (.sc (.bool true))):=by kernel_rfl
theorem r4_0:(runQ O6 tab 20000 7 [.d (.sc (.int .u8 (Int.ofNat 4))),.d (.sc (.int .u8 (Int.ofNat 0)))] [.lf] .lf 0).map (·.1)=some (.d (.sc (.bool true))):=by kernel_rfl
theorem r4_1:(runQ O6 tab 20000 7 [.d (.sc (.int .u8 (Int.ofNat 4))),.d (.sc (.int .u8 (Int.ofNat 1)))] [.lf] .lf 0).map (·.1)=some (.d (.sc (.bool true))):=by kernel_rfl
theorem r4_2:(runQ O6 tab 20000 7 [.d (.sc (.int .u8 (Int.ofNat 4))),.d (.sc (.int .u8 (Int.ofNat 2)))] [.lf] .lf 0).map (·.1)=some (.d (.sc (.bool true))):=by kernel_rfl
theorem r4_3:(runQ O6 tab 20000 7 [.d (.sc (.int .u8 (Int.ofNat 4))),.d (.sc (.int .u8 (Int.ofNat 3)))] [.lf] .lf 0).map (·.1)=some (.d (.sc (.bool true))):=by kernel_rfl
theorem r4_4:(runQ O6 tab 20000 7 [.d (.sc (.int .u8 (Int.ofNat 4))),.d (.sc (.int .u8 (Int.ofNat 4)))] [.lf] .lf 0).map (·.1)=some (.d (.sc (.bool true))):=by kernel_rfl
theorem r4_5:(runQ O6 tab 20000 7 [.d (.sc (.int .u8 (Int.ofNat 4))),.d (.sc (.int .u8 (Int.ofNat 5)))] [.lf] .lf 0).map (·.1)=some (.d (.sc (.bool true))):=by kernel_rfl
theorem r4_6:(runQ O6 tab 20000 7 [.d (.sc (.int .u8 (Int.ofNat 4))),.d (.sc (.int .u8 (Int.ofNat 6)))] [.lf] .lf 0).map (·.1)=some (.d (.sc (.bool true))):=by kernel_rfl
theorem r4_7:(runQ O6 tab 20000 7 [.d (.sc (.int .u8 (Int.ofNat 4))),.d (.sc (.int .u8 (Int.ofNat 7)))] [.lf] .lf 0).map (·.1)=some (.d (.sc (.bool true))):=by kernel_rfl
theorem r4_8:(runQ O6 tab 20000 7 [.d (.sc (.int .u8 (Int.ofNat 4))),.d (.sc (.int .u8 (Int.ofNat 8)))] [.lf] .lf 0).map (·.1)=some (.d (.sc (.bool true))):=by kernel_rfl
theorem r4_9 (l:Nat):(runQ O6 tab 20000 7 [.d (.sc (.int .u8 (Int.ofNat 4))),.d (.sc (.int .u8 (Int.ofNat (l+9))))] [.lf] .lf 0).map (·.1)=some (.d (.sc (.bool true))):=by kernel_rfl
theorem r8_0:(runQ O6 tab 20000 7 [.d (.sc (.int .u8 (Int.ofNat 8))),.d (.sc (.int .u8 (Int.ofNat 0)))] [.lf] .lf 0).map (·.1)=some (.d (.sc (.bool true))):=by kernel_rfl
theorem r8_1:(runQ O6 tab 20000 7 [.d (.sc (.int .u8 (Int.ofNat 8))),.d (.sc (.int .u8 (Int.ofNat 1)))] [.lf] .lf 0).map (·.1)=some (.d (.sc (.bool true))):=by kernel_rfl
theorem r8_2:(runQ O6 tab 20000 7 [.d (.sc (.int .u8 (Int.ofNat 8))),.d (.sc (.int .u8 (Int.ofNat 2)))] [.lf] .lf 0).map (·.1)=some (.d (.sc (.bool true))):=by kernel_rfl
theorem r8_3:(runQ O6 tab 20000 7 [.d (.sc (.int .u8 (Int.ofNat 8))),.d (.sc (.int .u8 (Int.ofNat 3)))] [.lf] .lf 0).map (·.1)=some (.d (.sc (.bool true))):=by kernel_rfl
theorem r8_4:(runQ O6 tab 20000 7 [.d (.sc (.int .u8 (Int.ofNat 8))),.d (.sc (.int .u8 (Int.ofNat 4)))] [.lf] .lf 0).map (·.1)=some (.d (.sc (.bool true))):=by kernel_rfl
theorem r8_5:(runQ O6 tab 20000 7 [.d (.sc (.int .u8 (Int.ofNat 8))),.d (.sc (.int .u8 (Int.ofNat 5)))] [.lf] .lf 0).map (·.1)=some (.d (.sc (.bool true))):=by kernel_rfl
theorem r8_6:(runQ O6 tab 20000 7 [.d (.sc (.int .u8 (Int.ofNat 8))),.d (.sc (.int .u8 (Int.ofNat 6)))] [.lf] .lf 0).map (·.1)=some (.d (.sc (.bool true))):=by kernel_rfl
theorem r8_7:(runQ O6 tab 20000 7 [.d (.sc (.int .u8 (Int.ofNat 8))),.d (.sc (.int .u8 (Int.ofNat 7)))] [.lf] .lf 0).map (·.1)=some (.d (.sc (.bool true))):=by kernel_rfl
theorem r8_8:(runQ O6 tab 20000 7 [.d (.sc (.int .u8 (Int.ofNat 8))),.d (.sc (.int .u8 (Int.ofNat 8)))] [.lf] .lf 0).map (·.1)=some (.d (.sc (.bool true))):=by kernel_rfl
theorem r8_9 (l:Nat):(runQ O6 tab 20000 7 [.d (.sc (.int .u8 (Int.ofNat 8))),.d (.sc (.int .u8 (Int.ofNat (l+9))))] [.lf] .lf 0).map (·.1)=some (.d (.sc (.bool true))):=by kernel_rfl
end
end Go.Proofs.YtnhbhdopamdgpaaGreatDoor
namespace Go.Proofs.YtnhbhdopamdgpaaGreatDoor
open Go Go.Eng
set_option maxRecDepth 100000
noncomputable section
theorem r1_0:(runQ O6 tab 20000 7 [.d (.sc (.int .u8 (Int.ofNat 1))),.d (.sc (.int .u8 (Int.ofNat 0)))] [.lf] .lf 0).map (·.1)=some (.d (.sc (.bool true))):=by kernel_rfl
theorem r1_1:(runQ O6 tab 20000 7 [.d (.sc (.int .u8 (Int.ofNat 1))),.d (.sc (.int .u8 (Int.ofNat 1)))] [.lf] .lf 0).map (·.1)=some (.d (.sc (.bool true))):=by kernel_rfl
theorem r1_2:(runQ O6 tab 20000 7 [.d (.sc (.int .u8 (Int.ofNat 1))),.d (.sc (.int .u8 (Int.ofNat 2)))] [.lf] .lf 0).map (·.1)=some (.d (.sc (.bool true))):=by kernel_rfl
theorem r1_3:(runQ O6 tab 20000 7 [.d (.sc (.int .u8 (Int.ofNat 1))),.d (.sc (.int .u8 (Int.ofNat 3)))] [.lf] .lf 0).map (·.1)=some (.d (.sc (.bool true))):=by kernel_rfl
theorem r1_4:(runQ O6 tab 20000 7 [.d (.sc (.int .u8 (Int.ofNat 1))),.d (.sc (.int .u8 (Int.ofNat 4)))] [.lf] .lf 0).map (·.1)=some (.d (.sc (.bool true))):=by kernel_rfl
theorem r1_5:(runQ O6 tab 20000 7 [.d (.sc (.int .u8 (Int.ofNat 1))),.d (.sc (.int .u8 (Int.ofNat 5)))] [.lf] .lf 0).map (·.1)=some (.d (.sc (.bool true))):=by kernel_rfl
theorem r1_6:(runQ O6 tab 20000 7 [.d (.sc (.int .u8 (Int.ofNat 1))),.d (.sc (.int .u8 (Int.ofNat 6)))] [.lf] .lf 0).map (·.1)=some (.d (.sc (.bool true))):=by kernel_rfl
theorem r1_7:(runQ O6 tab 20000 7 [.d (.sc (.int .u8 (Int.ofNat 1))),.d (.sc (.int .u8 (Int.ofNat 7)))] [.lf] .lf 0).map (·.1)=some (.d (.sc (.bool true))):=by kernel_rfl
theorem r1_8:(runQ O6 tab 20000 7 [.d (.sc (.int .u8 (Int.ofNat 1))),.d (.sc (.int .u8 (Int.ofNat 8)))] [.lf] .lf 0).map (·.1)=some (.d (.sc (.bool true))):=by kernel_rfl
theorem r1_9 (l:Nat):(runQ O6 tab 20000 7 [.d (.sc (.int .u8 (Int.ofNat 1))),.d (.sc (.int .u8 (Int.ofNat (l+9))))] [.lf] .lf 0).map (·.1)=some (.d (.sc (.bool true))):=by kernel_rfl
theorem r5_0:(runQ O6 tab 20000 7 [.d (.sc (.int .u8 (Int.ofNat 5))),.d (.sc (.int .u8 (Int.ofNat 0)))] [.lf] .lf 0).map (·.1)=some (.d (.sc (.bool true))):=by kernel_rfl
theorem r5_1:(runQ O6 tab 20000 7 [.d (.sc (.int .u8 (Int.ofNat 5))),.d (.sc (.int .u8 (Int.ofNat 1)))] [.lf] .lf 0).map (·.1)=some (.d (.sc (.bool true))):=by kernel_rfl
theorem r5_2:(runQ O6 tab 20000 7 [.d (.sc (.int .u8 (Int.ofNat 5))),.d (.sc (.int .u8 (Int.ofNat 2)))] [.lf] .lf 0).map (·.1)=some (.d (.sc (.bool true))):=by kernel_rfl
theorem r5_3:(runQ O6 tab 20000 7 [.d (.sc (.int .u8 (Int.ofNat 5))),.d (.sc (.int .u8 (Int.ofNat 3)))] [.lf] .lf 0).map (·.1)=some (.d (.sc (.bool true))):=by kernel_rfl
theorem r5_4:(runQ O6 tab 20000 7 [.d (.sc (.int .u8 (Int.ofNat 5))),.d (.sc (.int .u8 (Int.ofNat 4)))] [.lf] .lf 0).map (·.1)=some (.d (.sc (.bool true))):=by kernel_rfl
theorem r5_5:(runQ O6 tab 20000 7 [.d (.sc (.int .u8 (Int.ofNat 5))),.d (.sc (.int .u8 (Int.ofNat 5)))] [.lf] .lf 0).map (·.1)=some (.d (.sc (.bool true))):=by kernel_rfl
theorem r5_6:(runQ O6 tab 20000 7 [.d (.sc (.int .u8 (Int.ofNat 5))),.d (.sc (.int .u8 (Int.ofNat 6)))] [.lf] .lf 0).map (·.1)=some (.d (.sc (.bool true))):=by kernel_rfl
theorem r5_7:(runQ O6 tab 20000 7 [.d (.sc (.int .u8 (Int.ofNat 5))),.d (.sc (.int .u8 (Int.ofNat 7)))] [.lf] .lf 0).map (·.1)=some (.d (.sc (.bool true))):=by kernel_rfl
theorem r5_8:(runQ O6 tab 20000 7 [.d (.sc (.int .u8 (Int.ofNat 5))),.d (.sc (.int .u8 (Int.ofNat 8)))] [.lf] .lf 0).map (·.1)=some (.d (.sc (.bool true))):=by kernel_rfl
theorem r5_9 (l:Nat):(runQ O6 tab 20000 7 [.d (.sc (.int .u8 (Int.ofNat 5))),.d (.sc (.int .u8 (Int.ofNat (l+9))))] [.lf] .lf 0).map (·.1)=some (.d (.sc (.bool true))):=by kernel_rfl
theorem r9_0 (k:Nat):(runQ O6 tab 20000 7 [.d (.sc (.int .u8 (Int.ofNat (k+9)))),.d (.sc (.int .u8 (Int.ofNat 0)))] [.lf] .lf 0).map (·.1)=some (.d (.sc (.bool true))):=by kernel_rfl
theorem r9_1 (k:Nat):(runQ O6 tab 20000 7 [.d (.sc (.int .u8 (Int.ofNat (k+9)))),.d (.sc (.int .u8 (Int.ofNat 1)))] [.lf] .lf 0).map (·.1)=some (.d (.sc (.bool true))):=by kernel_rfl
theorem r9_2 (k:Nat):(runQ O6 tab 20000 7 [.d (.sc (.int .u8 (Int.ofNat (k+9)))),.d (.sc (.int .u8 (Int.ofNat 2)))] [.lf] .lf 0).map (·.1)=some (.d (.sc (.bool true))):=by kernel_rfl
theorem r9_3 (k:Nat):(runQ O6 tab 20000 7 [.d (.sc (.int .u8 (Int.ofNat (k+9)))),.d (.sc (.int .u8 (Int.ofNat 3)))] [.lf] .lf 0).map (·.1)=some (.d (.sc (.bool true))):=by kernel_rfl
theorem r9_4 (k:Nat):(runQ O6 tab 20000 7 [.d (.sc (.int .u8 (Int.ofNat (k+9)))),.d (.sc (.int .u8 (Int.ofNat 4)))] [.lf] .lf 0).map (·.1)=some (.d (.sc (.bool true))):=by kernel_rfl
theorem r9_5 (k:Nat):(runQ O6 tab 20000 7 [.d (.sc (.int .u8 (Int.ofNat (k+9)))),.d (.sc (.int .u8 (Int.ofNat 5)))] [.lf] .lf 0).map (·.1)=some (.d (.sc (.bool true))):=by kernel_rfl
theorem r9_6 (k:Nat):(runQ O6 tab 20000 7 [.d (.sc (.int .u8 (Int.ofNat (k+9)))),.d (.sc (.int .u8 (Int.ofNat 6)))] [.lf] .lf 0).map (·.1)=some (.d (.sc (.bool true))):=by kernel_rfl
theorem r9_7 (k:Nat):(runQ O6 tab 20000 7 [.d (.sc (.int .u8 (Int.ofNat (k+9)))),.d (.sc (.int .u8 (Int.ofNat 7)))] [.lf] .lf 0).map (·.1)=some (.d (.sc (.bool true))):=by kernel_rfl
theorem r9_8 (k:Nat):(runQ O6 tab 20000 7 [.d (.sc (.int .u8 (Int.ofNat (k+9)))),.d (.sc (.int .u8 (Int.ofNat 8)))] [.lf] .lf 0).map (·.1)=some (.d (.sc (.bool true))):=by kernel_rfl
theorem r9_9 (k l:Nat):(runQ O6 tab 20000 7 [.d (.sc (.int .u8 (Int.ofNat (k+9)))),.d (.sc (.int .u8 (Int.ofNat (l+9))))] [.lf] .lf 0).map (·.1)=some (.d (.sc (.bool true))):=by kernel_rfl
end
end Go.Proofs.YtnhbhdopamdgpaaGreatDoor
namespace Go.Proofs.YtnhbhdopamdgpaaGreatDoor
open Go Go.Eng
set_option maxRecDepth 100000
noncomputable section
theorem r2_0:(runQ O6 tab 20000 7 [.d (.sc (.int .u8 (Int.ofNat 2))),.d (.sc (.int .u8 (Int.ofNat 0)))] [.lf] .lf 0).map (·.1)=some (.d (.sc (.bool true))):=by kernel_rfl
theorem r2_1:(runQ O6 tab 20000 7 [.d (.sc (.int .u8 (Int.ofNat 2))),.d (.sc (.int .u8 (Int.ofNat 1)))] [.lf] .lf 0).map (·.1)=some (.d (.sc (.bool true))):=by kernel_rfl
theorem r2_2:(runQ O6 tab 20000 7 [.d (.sc (.int .u8 (Int.ofNat 2))),.d (.sc (.int .u8 (Int.ofNat 2)))] [.lf] .lf 0).map (·.1)=some (.d (.sc (.bool true))):=by kernel_rfl
theorem r2_3:(runQ O6 tab 20000 7 [.d (.sc (.int .u8 (Int.ofNat 2))),.d (.sc (.int .u8 (Int.ofNat 3)))] [.lf] .lf 0).map (·.1)=some (.d (.sc (.bool true))):=by kernel_rfl
theorem r2_4:(runQ O6 tab 20000 7 [.d (.sc (.int .u8 (Int.ofNat 2))),.d (.sc (.int .u8 (Int.ofNat 4)))] [.lf] .lf 0).map (·.1)=some (.d (.sc (.bool true))):=by kernel_rfl
theorem r2_5:(runQ O6 tab 20000 7 [.d (.sc (.int .u8 (Int.ofNat 2))),.d (.sc (.int .u8 (Int.ofNat 5)))] [.lf] .lf 0).map (·.1)=some (.d (.sc (.bool true))):=by kernel_rfl
theorem r2_6:(runQ O6 tab 20000 7 [.d (.sc (.int .u8 (Int.ofNat 2))),.d (.sc (.int .u8 (Int.ofNat 6)))] [.lf] .lf 0).map (·.1)=some (.d (.sc (.bool true))):=by kernel_rfl
theorem r2_7:(runQ O6 tab 20000 7 [.d (.sc (.int .u8 (Int.ofNat 2))),.d (.sc (.int .u8 (Int.ofNat 7)))] [.lf] .lf 0).map (·.1)=some (.d (.sc (.bool true))):=by kernel_rfl
theorem r2_8:(runQ O6 tab 20000 7 [.d (.sc (.int .u8 (Int.ofNat 2))),.d (.sc (.int .u8 (Int.ofNat 8)))] [.lf] .lf 0).map (·.1)=some (.d (.sc (.bool true))):=by kernel_rfl
theorem r2_9 (l:Nat):(runQ O6 tab 20000 7 [.d (.sc (.int .u8 (Int.ofNat 2))),.d (.sc (.int .u8 (Int.ofNat (l+9))))] [.lf] .lf 0).map (·.1)=some (.d (.sc (.bool true))):=by kernel_rfl
theorem r6_0:(runQ O6 tab 20000 7 [.d (.sc (.int .u8 (Int.ofNat 6))),.d (.sc (.int .u8 (Int.ofNat 0)))] [.lf] .lf 0).map (·.1)=some (.d (.sc (.bool true))):=by kernel_rfl
theorem r6_1:(runQ O6 tab 20000 7 [.d (.sc (.int .u8 (Int.ofNat 6))),.d (.sc (.int .u8 (Int.ofNat 1)))] [.lf] .lf 0).map (·.1)=some (.d (.sc (.bool true))):=by kernel_rfl
theorem r6_2:(runQ O6 tab 20000 7 [.d (.sc (.int .u8 (Int.ofNat 6))),.d (.sc (.int .u8 (Int.ofNat 2)))] [.lf] .lf 0).map (·.1)=some (.d (.sc (.bool true))):=by kernel_rfl
theorem r6_3:(runQ O6 tab 20000 7 [.d (.sc (.int .u8 (Int.ofNat 6))),.d (.sc (.int .u8 (Int.ofNat 3)))] [.lf] .lf 0).map (·.1)=some (.d (.sc (.bool true))):=by kernel_rfl
theorem r6_4:(runQ O6 tab 20000 7 [.d (.sc (.int .u8 (Int.ofNat 6))),.d (.sc (.int .u8 (Int.ofNat 4)))] [.lf] .lf 0).map (·.1)=some (.d (.sc (.bool true))):=by kernel_rfl
theorem r6_5:(runQ O6 tab 20000 7 [.d (.sc (.int .u8 (Int.ofNat 6))),.d (.sc (.int .u8 (Int.ofNat 5)))] [.lf] .lf 0).map (·.1)=some (.d (.sc (.bool true))):=by kernel_rfl
theorem r6_6:(runQ O6 tab 20000 7 [.d (.sc (.int .u8 (Int.ofNat 6))),.d (.sc (.int .u8 (Int.ofNat 6)))] [.lf] .lf 0).map (·.1)=some (.d (.sc (.bool true))):=by kernel_rfl
theorem r6_7:(runQ O6 tab 20000 7 [.d (.sc (.int .u8 (Int.ofNat 6))),.d (.sc (.int .u8 (Int.ofNat 7)))] [.lf] .lf 0).map (·.1)=some (.d (.sc (.bool true))):=by kernel_rfl
theorem r6_8:(runQ O6 tab 20000 7 [.d (.sc (.int .u8 (Int.ofNat 6))),.d (.sc (.int .u8 (Int.ofNat 8)))] [.lf] .lf 0).map (·.1)=some (.d (.sc (.bool true))):=by kernel_rfl
theorem r6_9 (l:Nat):(runQ O6 tab 20000 7 [.d (.sc (.int .u8 (Int.ofNat 6))),.d (.sc (.int .u8 (Int.ofNat (l+9))))] [.lf] .lf 0).map (·.1)=some (.d (.sc (.bool true))):=by kernel_rfl
end
end Go.Proofs.YtnhbhdopamdgpaaGreatDoor
namespace Go.Proofs.YtnhbhdopamdgpaaGreatDoor
open Go Go.Eng
set_option maxRecDepth 100000
noncomputable section
theorem r3_0:(runQ O6 tab 20000 7 [.d (.sc (.int .u8 (Int.ofNat 3))),.d (.sc (.int .u8 (Int.ofNat 0)))] [.lf] .lf 0).map (·.1)=some (.d (.sc (.bool true))):=by kernel_rfl
theorem r3_1:(runQ O6 tab 20000 7 [.d (.sc (.int .u8 (Int.ofNat 3))),.d (.sc (.int .u8 (Int.ofNat 1)))] [.lf] .lf 0).map (·.1)=some (.d (.sc (.bool true))):=by kernel_rfl
theorem r3_2:(runQ O6 tab 20000 7 [.d (.sc (.int .u8 (Int.ofNat 3))),.d (.sc (.int .u8 (Int.ofNat 2)))] [.lf] .lf 0).map (·.1)=some (.d (.sc (.bool true))):=by kernel_rfl
theorem r3_3:(runQ O6 tab 20000 7 [.d (.sc (.int .u8 (Int.ofNat 3))),.d (.sc (.int .u8 (Int.ofNat 3)))] [.lf] .lf 0).map (·.1)=some (.d (.sc (.bool true))):=by kernel_rfl
theorem r3_4:(runQ O6 tab 20000 7 [.d (.sc (.int .u8 (Int.ofNat 3))),.d (.sc (.int .u8 (Int.ofNat 4)))] [.lf] .lf 0).map (·.1)=some (.d (.sc (.bool true))):=by kernel_rfl
theorem r3_5:(runQ O6 tab 20000 7 [.d (.sc (.int .u8 (Int.ofNat 3))),.d (.sc (.int .u8 (Int.ofNat 5)))] [.lf] .lf 0).map (·.1)=some (.d (.sc (.bool true))):=by kernel_rfl
theorem r3_6:(runQ O6 tab 20000 7 [.d (.sc (.int .u8 (Int.ofNat 3))),.d (.sc (.int .u8 (Int.ofNat 6)))] [.lf] .lf 0).map (·.1)=some (.d (.sc (.bool true))):=by kernel_rfl
theorem r3_7:(runQ O6 tab 20000 7 [.d (.sc (.int .u8 (Int.ofNat 3))),.d (.sc (.int .u8 (Int.ofNat 7)))] [.lf] .lf 0).map (·.1)=some (.d (.sc (.bool true))):=by kernel_rfl
theorem r3_8:(runQ O6 tab 20000 7 [.d (.sc (.int .u8 (Int.ofNat 3))),.d (.sc (.int .u8 (Int.ofNat 8)))] [.lf] .lf 0).map (·.1)=some (.d (.sc (.bool true))):=by kernel_rfl
theorem r3_9 (l:Nat):(runQ O6 tab 20000 7 [.d (.sc (.int .u8 (Int.ofNat 3))),.d (.sc (.int .u8 (Int.ofNat (l+9))))] [.lf] .lf 0).map (·.1)=some (.d (.sc (.bool true))):=by kernel_rfl
theorem r7_0:(runQ O6 tab 20000 7 [.d (.sc (.int .u8 (Int.ofNat 7))),.d (.sc (.int .u8 (Int.ofNat 0)))] [.lf] .lf 0).map (·.1)=some (.d (.sc (.bool true))):=by kernel_rfl
theorem r7_1:(runQ O6 tab 20000 7 [.d (.sc (.int .u8 (Int.ofNat 7))),.d (.sc (.int .u8 (Int.ofNat 1)))] [.lf] .lf 0).map (·.1)=some (.d (.sc (.bool true))):=by kernel_rfl
theorem r7_2:(runQ O6 tab 20000 7 [.d (.sc (.int .u8 (Int.ofNat 7))),.d (.sc (.int .u8 (Int.ofNat 2)))] [.lf] .lf 0).map (·.1)=some (.d (.sc (.bool true))):=by kernel_rfl
theorem r7_3:(runQ O6 tab 20000 7 [.d (.sc (.int .u8 (Int.ofNat 7))),.d (.sc (.int .u8 (Int.ofNat 3)))] [.lf] .lf 0).map (·.1)=some (.d (.sc (.bool true))):=by kernel_rfl
theorem r7_4:(runQ O6 tab 20000 7 [.d (.sc (.int .u8 (Int.ofNat 7))),.d (.sc (.int .u8 (Int.ofNat 4)))] [.lf] .lf 0).map (·.1)=some (.d (.sc (.bool true))):=by kernel_rfl
theorem r7_5:(runQ O6 tab 20000 7 [.d (.sc (.int .u8 (Int.ofNat 7))),.d (.sc (.int .u8 (Int.ofNat 5)))] [.lf] .lf 0).map (·.1)=some (.d (.sc (.bool true))):=by kernel_rfl
theorem r7_6:(runQ O6 tab 20000 7 [.d (.sc (.int .u8 (Int.ofNat 7))),.d (.sc (.int .u8 (Int.ofNat 6)))] [.lf] .lf 0).map (·.1)=some (.d (.sc (.bool true))):=by kernel_rfl
theorem r7_7:(runQ O6 tab 20000 7 [.d (.sc (.int .u8 (Int.ofNat 7))),.d (.sc (.int .u8 (Int.ofNat 7)))] [.lf] .lf 0).map (·.1)=some (.d (.sc (.bool true))):=by kernel_rfl
theorem r7_8:(runQ O6 tab 20000 7 [.d (.sc (.int .u8 (Int.ofNat 7))),.d (.sc (.int .u8 (Int.ofNat 8)))] [.lf] .lf 0).map (·.1)=some (.d (.sc (.bool true))):=by kernel_rfl
theorem r7_9 (l:Nat):(runQ O6 tab 20000 7 [.d (.sc (.int .u8 (Int.ofNat 7))),.d (.sc (.int .u8 (Int.ofNat (l+9))))] [.lf] .lf 0).map (·.1)=some (.d (.sc (.bool true))):=by kernel_rfl
end
end Go.Proofs.YtnhbhdopamdgpaaGreatDoor
