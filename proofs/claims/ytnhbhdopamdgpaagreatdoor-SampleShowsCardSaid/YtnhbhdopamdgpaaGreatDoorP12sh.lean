/- A part of the proof: P12se, P12sf, P12sg, P12sh. -/
import Derived.Test.YtnhbhdopamdgpaaGreatDoorD12s
namespace Go.Proofs.YtnhbhdopamdgpaaGreatDoor
open Go Go.Eng
set_option maxRecDepth 100000
noncomputable section
theorem k48:thawG (runQ O3 tab 20000) 47 e48.as [.lf] .lf 0=some (e48.v,[.lf],.lf,e48.n):=by kernel_rfl
theorem k137:thawG (runQ O3 tab 20000) 21 e137.as [.lf] .lf 0=some (e137.v,[.lf],.lf,e137.n):=by kernel_rfl
theorem k147:thawG (runQ O0 tab 20000) 18 e147.as [.lf] .lf 0=some (e147.v,[.lf],.lf,e147.n):=by kernel_rfl
theorem k191:thawG (runQ O0 tab 20000) 18 e191.as [.lf] .lf 0=some (e191.v,[.lf],.lf,e191.n):=by kernel_rfl
end
end Go.Proofs.YtnhbhdopamdgpaaGreatDoor
namespace Go.Proofs.YtnhbhdopamdgpaaGreatDoor
open Go Go.Eng
set_option maxRecDepth 100000
noncomputable section
theorem k21:thawG (runQ O0 tab 20000) 153 e21.as [.lf] .lf 0=some (e21.v,[.lf],.lf,e21.n):=by kernel_rfl
theorem k81:thawG (runQ O3 tab 20000) 47 e81.as [.lf] .lf 0=some (e81.v,[.lf],.lf,e81.n):=by kernel_rfl
theorem k162:thawG (runQ O2 tab 20000) 57 e162.as [.lf] .lf 0=some (e162.v,[.lf],.lf,e162.n):=by kernel_rfl
theorem k176:thawG (runQ O2 tab 20000) 57 e176.as [.lf] .lf 0=some (e176.v,[.lf],.lf,e176.n):=by kernel_rfl
end
end Go.Proofs.YtnhbhdopamdgpaaGreatDoor
namespace Go.Proofs.YtnhbhdopamdgpaaGreatDoor
open Go Go.Eng
set_option maxRecDepth 100000
noncomputable section
theorem k43:thawG (runQ O1 tab 20000) 133 e43.as [.lf] .lf 0=some (e43.v,[.lf],.lf,e43.n):=by kernel_rfl
theorem k77:thawG (runQ O2 tab 20000) 57 e77.as [.lf] .lf 0=some (e77.v,[.lf],.lf,e77.n):=by kernel_rfl
theorem k138:thawG (runQ O0 tab 20000) 22 e138.as [.lf] .lf 0=some (e138.v,[.lf],.lf,e138.n):=by kernel_rfl
theorem k144:thawG (runQ O0 tab 20000) 18 e144.as [.lf] .lf 0=some (e144.v,[.lf],.lf,e144.n):=by kernel_rfl
theorem k146:thawG (runQ O0 tab 20000) 18 e146.as [.lf] .lf 0=some (e146.v,[.lf],.lf,e146.n):=by kernel_rfl
theorem k148:thawG (runQ O2 tab 20000) 57 e148.as [.lf] .lf 0=some (e148.v,[.lf],.lf,e148.n):=by kernel_rfl
theorem k155:thawG (runQ O2 tab 20000) 57 e155.as [.lf] .lf 0=some (e155.v,[.lf],.lf,e155.n):=by kernel_rfl
end
end Go.Proofs.YtnhbhdopamdgpaaGreatDoor
namespace Go.Proofs.YtnhbhdopamdgpaaGreatDoor
open Go Go.Eng
set_option maxRecDepth 100000
noncomputable section
theorem k44:thawG (runQ O3 tab 20000) 47 e44.as [.lf] .lf 0=some (e44.v,[.lf],.lf,e44.n):=by kernel_rfl
theorem k59:thawG (runQ O1 tab 20000) 133 e59.as [.lf] .lf 0=some (e59.v,[.lf],.lf,e59.n):=by kernel_rfl
theorem k125:thawG (runQ O2 tab 20000) 57 e125.as [.lf] .lf 0=some (e125.v,[.lf],.lf,e125.n):=by kernel_rfl
theorem k136:thawG (runQ O2 tab 20000) 57 e136.as [.lf] .lf 0=some (e136.v,[.lf],.lf,e136.n):=by kernel_rfl
theorem k172:thawG (runQ O0 tab 20000) 18 e172.as [.lf] .lf 0=some (e172.v,[.lf],.lf,e172.n):=by kernel_rfl
end
end Go.Proofs.YtnhbhdopamdgpaaGreatDoor
