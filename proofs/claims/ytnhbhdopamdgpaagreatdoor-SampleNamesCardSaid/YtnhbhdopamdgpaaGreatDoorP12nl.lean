/- A part of the proof: P12ni, P12nj, P12nk, P12nl. -/
import Derived.Test.YtnhbhdopamdgpaaGreatDoorD12n
namespace Go.Proofs.YtnhbhdopamdgpaaGreatDoor
open Go Go.Eng
set_option maxRecDepth 100000
noncomputable section
theorem k4:thawG (runQ O1 tab 20000) 95 e4.as [.lf] .lf 0=some (e4.v,[.lf],.lf,e4.n):=by kernel_rfl
theorem k5:thawG (runQ O1 tab 20000) 95 e5.as [.lf] .lf 0=some (e5.v,[.lf],.lf,e5.n):=by kernel_rfl
theorem k43:thawG (runQ O1 tab 20000) 133 e43.as [.lf] .lf 0=some (e43.v,[.lf],.lf,e43.n):=by kernel_rfl
theorem k172:thawG (runQ O3 tab 20000) 47 e172.as [.lf] .lf 0=some (e172.v,[.lf],.lf,e172.n):=by kernel_rfl
theorem k184:thawG (runQ O3 tab 20000) 47 e184.as [.lf] .lf 0=some (e184.v,[.lf],.lf,e184.n):=by kernel_rfl
theorem k192:thawG (runQ O4 tab 20000) 13 e192.as [.lf] .lf 0=some (e192.v,[.lf],.lf,e192.n):=by kernel_rfl
theorem k195:thawG (runQ O3 tab 20000) 47 e195.as [.lf] .lf 0=some (e195.v,[.lf],.lf,e195.n):=by kernel_rfl
end
end Go.Proofs.YtnhbhdopamdgpaaGreatDoor
namespace Go.Proofs.YtnhbhdopamdgpaaGreatDoor
open Go Go.Eng
set_option maxRecDepth 100000
noncomputable section
theorem k22:thawG (runQ O0 tab 20000) 153 e22.as [.lf] .lf 0=some (e22.v,[.lf],.lf,e22.n):=by kernel_rfl
theorem k44:thawG (runQ O3 tab 20000) 47 e44.as [.lf] .lf 0=some (e44.v,[.lf],.lf,e44.n):=by kernel_rfl
theorem k50:thawG (runQ O3 tab 20000) 47 e50.as [.lf] .lf 0=some (e50.v,[.lf],.lf,e50.n):=by kernel_rfl
theorem k162:thawG (runQ O3 tab 20000) 47 e162.as [.lf] .lf 0=some (e162.v,[.lf],.lf,e162.n):=by kernel_rfl
theorem k173:thawG (runQ O3 tab 20000) 47 e173.as [.lf] .lf 0=some (e173.v,[.lf],.lf,e173.n):=by kernel_rfl
theorem k185:thawG (runQ O3 tab 20000) 47 e185.as [.lf] .lf 0=some (e185.v,[.lf],.lf,e185.n):=by kernel_rfl
end
end Go.Proofs.YtnhbhdopamdgpaaGreatDoor
namespace Go.Proofs.YtnhbhdopamdgpaaGreatDoor
open Go Go.Eng
set_option maxRecDepth 100000
noncomputable section
theorem k48:thawG (runQ O3 tab 20000) 47 e48.as [.lf] .lf 0=some (e48.v,[.lf],.lf,e48.n):=by kernel_rfl
theorem k174:thawG (runQ O3 tab 20000) 47 e174.as [.lf] .lf 0=some (e174.v,[.lf],.lf,e174.n):=by kernel_rfl
theorem k183:thawG (runQ O1 tab 20000) 133 e183.as [.lf] .lf 0=some (e183.v,[.lf],.lf,e183.n):=by kernel_rfl
theorem k186:thawG (runQ O3 tab 20000) 47 e186.as [.lf] .lf 0=some (e186.v,[.lf],.lf,e186.n):=by kernel_rfl
theorem k196:thawG (runQ O3 tab 20000) 47 e196.as [.lf] .lf 0=some (e196.v,[.lf],.lf,e196.n):=by kernel_rfl
theorem k197:thawG (runQ O3 tab 20000) 47 e197.as [.lf] .lf 0=some (e197.v,[.lf],.lf,e197.n):=by kernel_rfl
theorem k211:thawG (runQ O3 tab 20000) 47 e211.as [.lf] .lf 0=some (e211.v,[.lf],.lf,e211.n):=by kernel_rfl
end
end Go.Proofs.YtnhbhdopamdgpaaGreatDoor
namespace Go.Proofs.YtnhbhdopamdgpaaGreatDoor
open Go Go.Eng
set_option maxRecDepth 100000
noncomputable section
theorem k20:thawG (runQ O0 tab 20000) 153 e20.as [.lf] .lf 0=some (e20.v,[.lf],.lf,e20.n):=by kernel_rfl
theorem k92:thawG (runQ O3 tab 20000) 47 e92.as [.lf] .lf 0=some (e92.v,[.lf],.lf,e92.n):=by kernel_rfl
theorem k94:thawG (runQ O3 tab 20000) 47 e94.as [.lf] .lf 0=some (e94.v,[.lf],.lf,e94.n):=by kernel_rfl
theorem k96:thawG (runQ O3 tab 20000) 47 e96.as [.lf] .lf 0=some (e96.v,[.lf],.lf,e96.n):=by kernel_rfl
theorem k98:thawG (runQ O3 tab 20000) 47 e98.as [.lf] .lf 0=some (e98.v,[.lf],.lf,e98.n):=by kernel_rfl
theorem k164:thawG (runQ O3 tab 20000) 47 e164.as [.lf] .lf 0=some (e164.v,[.lf],.lf,e164.n):=by kernel_rfl
theorem k175:thawG (runQ O3 tab 20000) 47 e175.as [.lf] .lf 0=some (e175.v,[.lf],.lf,e175.n):=by kernel_rfl
theorem k187:thawG (runQ O3 tab 20000) 47 e187.as [.lf] .lf 0=some (e187.v,[.lf],.lf,e187.n):=by kernel_rfl
theorem k198:thawG (runQ O3 tab 20000) 47 e198.as [.lf] .lf 0=some (e198.v,[.lf],.lf,e198.n):=by kernel_rfl
theorem k209:thawG (runQ O3 tab 20000) 47 e209.as [.lf] .lf 0=some (e209.v,[.lf],.lf,e209.n):=by kernel_rfl
theorem k214:thawG (runQ O4 tab 20000) 9 e214.as [.lf] .lf 0=some (e214.v,[.lf],.lf,e214.n):=by kernel_rfl
end
end Go.Proofs.YtnhbhdopamdgpaaGreatDoor
