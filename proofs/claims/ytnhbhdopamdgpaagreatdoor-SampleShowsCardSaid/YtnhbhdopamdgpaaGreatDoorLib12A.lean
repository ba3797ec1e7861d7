/- The calls of Go's library that the recipes come to: all. -/
import Derived.Test.YtnhbhdopamdgpaaGreatDoorLib12
import Derived.Test.YtnhbhdopamdgpaaGreatDoorEngLibA
import Derived.Test.YtnhbhdopamdgpaaGreatDoorLay12C
namespace Go.Proofs.YtnhbhdopamdgpaaGreatDoor
open Go Go.Eng
set_option maxRecDepth 100000
theorem lAtoi:CallOK Tryz.prog (oLib 44 ansA):=atoi_ok (ρ:=Tryz.laysC172_ren) { Tryz.laysC172 with } Tryz.laysC172 ⟨_,Tryz.func44,by kernel_rfl,by kernel_rfl⟩ fun w hg=>hg.err
theorem lib0_ok:CallOK Tryz.prog lib0:=altQ_ok lFields (altQ_ok lSplit (altQ_ok lItoa lAtoi))
end Go.Proofs.YtnhbhdopamdgpaaGreatDoor
