/- A part of the proof: P12na, P12nb, P12nc, P12nd. -/
import Derived.Test.YtnhbhdopamdgpaaGreatDoorD12n
namespace Go.Proofs.YtnhbhdopamdgpaaGreatDoor
open Go Go.Eng
set_option maxRecDepth 100000
noncomputable section
theorem k42:thawG (runQ O3 tab 20000) 47 e42.as [.lf] .lf 0=some (e42.v,[.lf],.lf,e42.n):=by kernel_rfl
end
end Go.Proofs.YtnhbhdopamdgpaaGreatDoor
namespace Go.Proofs.YtnhbhdopamdgpaaGreatDoor
open Go Go.Eng
set_option maxRecDepth 100000
noncomputable section
theorem k161:thawG (runQ O3 tab 20000) 47 e161.as [.lf] .lf 0=some (e161.v,[.lf],.lf,e161.n):=by kernel_rfl
end
end Go.Proofs.YtnhbhdopamdgpaaGreatDoor
namespace Go.Proofs.YtnhbhdopamdgpaaGreatDoor
open Go Go.Eng
set_option maxRecDepth 100000
noncomputable section
theorem k0:thawG (runQ O0 tab 20000) 13 e0.as [.lf] .lf 0=some (e0.v,[.lf],.lf,e0.n):=by kernel_rfl
theorem k46:thawG (runQ O3 tab 20000) 47 e46.as [.lf] .lf 0=some (e46.v,[.lf],.lf,e46.n):=by kernel_rfl
theorem k58:thawG (runQ O0 tab 20000) 9 e58.as [.lf] .lf 0=some (e58.v,[.lf],.lf,e58.n):=by kernel_rfl
theorem k59:thawG (runQ O0 tab 20000) 9 e59.as [.lf] .lf 0=some (e59.v,[.lf],.lf,e59.n):=by kernel_rfl
theorem k61:thawG (runQ O0 tab 20000) 94 e61.as [.lf] .lf 0=some (e61.v,[.lf],.lf,e61.n):=by kernel_rfl
theorem k88:thawG (runQ O2 tab 20000) 57 e88.as [.lf] .lf 0=some (e88.v,[.lf],.lf,e88.n):=by kernel_rfl
theorem k160:thawG (runQ O1 tab 20000) 133 e160.as [.lf] .lf 0=some (e160.v,[.lf],.lf,e160.n):=by kernel_rfl
end
end Go.Proofs.YtnhbhdopamdgpaaGreatDoor
namespace Go.Proofs.YtnhbhdopamdgpaaGreatDoor
open Go Go.Eng
set_option maxRecDepth 100000
noncomputable section
theorem k2:thawG (runQ O1 tab 20000) 95 e2.as [.lf] .lf 0=some (e2.v,[.lf],.lf,e2.n):=by kernel_rfl
theorem k40:thawG (runQ O2 tab 20000) 57 e40.as [.lf] .lf 0=some (e40.v,[.lf],.lf,e40.n):=by kernel_rfl
theorem k68:thawG (runQ O4 tab 20000) 9 e68.as [.lf] .lf 0=some (e68.v,[.lf],.lf,e68.n):=by kernel_rfl
theorem k193:thawG (runQ O2 tab 20000) 57 e193.as [.lf] .lf 0=some (e193.v,[.lf],.lf,e193.n):=by kernel_rfl
end
end Go.Proofs.YtnhbhdopamdgpaaGreatDoor
