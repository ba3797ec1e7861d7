/- A part of the proof: P12si, P12sj, P12sk, P12sl. -/
import Derived.Test.YtnhbhdopamdgpaaGreatDoorD12s
namespace Go.Proofs.YtnhbhdopamdgpaaGreatDoor
open Go Go.Eng
set_option maxRecDepth 100000
noncomputable section
theorem k40:thawG (runQ O3 tab 20000) 47 e40.as [.lf] .lf 0=some (e40.v,[.lf],.lf,e40.n):=by kernel_rfl
theorem k88:thawG (runQ O2 tab 20000) 57 e88.as [.lf] .lf 0=some (e88.v,[.lf],.lf,e88.n):=by kernel_rfl
theorem k89:thawG (runQ O1 tab 20000) 133 e89.as [.lf] .lf 0=some (e89.v,[.lf],.lf,e89.n):=by kernel_rfl
theorem k100:thawG (runQ O2 tab 20000) 57 e100.as [.lf] .lf 0=some (e100.v,[.lf],.lf,e100.n):=by kernel_rfl
end
end Go.Proofs.YtnhbhdopamdgpaaGreatDoor
namespace Go.Proofs.YtnhbhdopamdgpaaGreatDoor
open Go Go.Eng
set_option maxRecDepth 100000
noncomputable section
theorem k58:thawG (runQ O2 tab 20000) 57 e58.as [.lf] .lf 0=some (e58.v,[.lf],.lf,e58.n):=by kernel_rfl
theorem k62:thawG (runQ O3 tab 20000) 47 e62.as [.lf] .lf 0=some (e62.v,[.lf],.lf,e62.n):=by kernel_rfl
theorem k64:thawG (runQ O3 tab 20000) 47 e64.as [.lf] .lf 0=some (e64.v,[.lf],.lf,e64.n):=by kernel_rfl
theorem k72:thawG (runQ O0 tab 20000) 153 e72.as [.lf] .lf 0=some (e72.v,[.lf],.lf,e72.n):=by kernel_rfl
theorem k112:thawG (runQ O2 tab 20000) 57 e112.as [.lf] .lf 0=some (e112.v,[.lf],.lf,e112.n):=by kernel_rfl
end
end Go.Proofs.YtnhbhdopamdgpaaGreatDoor
namespace Go.Proofs.YtnhbhdopamdgpaaGreatDoor
open Go Go.Eng
set_option maxRecDepth 100000
noncomputable section
theorem k18:thawG (runQ O0 tab 20000) 153 e18.as [.lf] .lf 0=some (e18.v,[.lf],.lf,e18.n):=by kernel_rfl
theorem k38:thawG (runQ O2 tab 20000) 57 e38.as [.lf] .lf 0=some (e38.v,[.lf],.lf,e38.n):=by kernel_rfl
theorem k55:thawG (runQ O4 tab 20000) 13 e55.as [.lf] .lf 0=some (e55.v,[.lf],.lf,e55.n):=by kernel_rfl
theorem k127:thawG (runQ O3 tab 20000) 47 e127.as [.lf] .lf 0=some (e127.v,[.lf],.lf,e127.n):=by kernel_rfl
theorem k174:thawG (runQ O0 tab 20000) 18 e174.as [.lf] .lf 0=some (e174.v,[.lf],.lf,e174.n):=by kernel_rfl
theorem k175:thawG (runQ O0 tab 20000) 18 e175.as [.lf] .lf 0=some (e175.v,[.lf],.lf,e175.n):=by kernel_rfl
theorem k186:thawG (runQ O0 tab 20000) 18 e186.as [.lf] .lf 0=some (e186.v,[.lf],.lf,e186.n):=by kernel_rfl
theorem k187:thawG (runQ O0 tab 20000) 18 e187.as [.lf] .lf 0=some (e187.v,[.lf],.lf,e187.n):=by kernel_rfl
end
end Go.Proofs.YtnhbhdopamdgpaaGreatDoor
namespace Go.Proofs.YtnhbhdopamdgpaaGreatDoor
open Go Go.Eng
set_option maxRecDepth 100000
noncomputable section
theorem k46:thawG (runQ O3 tab 20000) 47 e46.as [.lf] .lf 0=some (e46.v,[.lf],.lf,e46.n):=by kernel_rfl
theorem k90:thawG (runQ O3 tab 20000) 47 e90.as [.lf] .lf 0=some (e90.v,[.lf],.lf,e90.n):=by kernel_rfl
theorem k102:thawG (runQ O3 tab 20000) 47 e102.as [.lf] .lf 0=some (e102.v,[.lf],.lf,e102.n):=by kernel_rfl
theorem k126:thawG (runQ O1 tab 20000) 133 e126.as [.lf] .lf 0=some (e126.v,[.lf],.lf,e126.n):=by kernel_rfl
theorem k135:thawG (runQ O4 tab 20000) 13 e135.as [.lf] .lf 0=some (e135.v,[.lf],.lf,e135.n):=by kernel_rfl
end
end Go.Proofs.YtnhbhdopamdgpaaGreatDoor
