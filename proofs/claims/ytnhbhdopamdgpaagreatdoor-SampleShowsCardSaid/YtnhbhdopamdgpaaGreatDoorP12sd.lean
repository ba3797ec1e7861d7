/- A part of the proof: P12sa, P12sb, P12sc, P12sd. -/
import Derived.Test.YtnhbhdopamdgpaaGreatDoorD12s
namespace Go.Proofs.YtnhbhdopamdgpaaGreatDoor
open Go Go.Eng
set_option maxRecDepth 100000
noncomputable section
theorem k177:thawG (runQ O3 tab 20000) 21 e177.as [.lf] .lf 0=some (e177.v,[.lf],.lf,e177.n):=by kernel_rfl
end
end Go.Proofs.YtnhbhdopamdgpaaGreatDoor
namespace Go.Proofs.YtnhbhdopamdgpaaGreatDoor
open Go Go.Eng
set_option maxRecDepth 100000
noncomputable section
theorem k156:thawG (runQ O3 tab 20000) 21 e156.as [.lf] .lf 0=some (e156.v,[.lf],.lf,e156.n):=by kernel_rfl
end
end Go.Proofs.YtnhbhdopamdgpaaGreatDoor
namespace Go.Proofs.YtnhbhdopamdgpaaGreatDoor
open Go Go.Eng
set_option maxRecDepth 100000
noncomputable section
theorem k149:thawG (runQ O3 tab 20000) 21 e149.as [.lf] .lf 0=some (e149.v,[.lf],.lf,e149.n):=by kernel_rfl
end
end Go.Proofs.YtnhbhdopamdgpaaGreatDoor
namespace Go.Proofs.YtnhbhdopamdgpaaGreatDoor
open Go Go.Eng
set_option maxRecDepth 100000
noncomputable section
theorem k163:thawG (runQ O3 tab 20000) 21 e163.as [.lf] .lf 0=some (e163.v,[.lf],.lf,e163.n):=by kernel_rfl
end
end Go.Proofs.YtnhbhdopamdgpaaGreatDoor
