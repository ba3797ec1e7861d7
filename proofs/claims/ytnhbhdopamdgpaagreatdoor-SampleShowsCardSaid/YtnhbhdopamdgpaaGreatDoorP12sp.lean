/- A part of the proof: P12sm, P12sn, P12so, P12sp. -/
import Derived.Test.YtnhbhdopamdgpaaGreatDoorD12s
namespace Go.Proofs.YtnhbhdopamdgpaaGreatDoor
open Go Go.Eng
set_option maxRecDepth 100000
noncomputable section
theorem k0:thawG (runQ O0 tab 20000) 94 e0.as [.lf] .lf 0=some (e0.v,[.lf],.lf,e0.n):=by kernel_rfl
theorem k63:thawG (runQ O3 tab 20000) 47 e63.as [.lf] .lf 0=some (e63.v,[.lf],.lf,e63.n):=by kernel_rfl
theorem k98:thawG (runQ O4 tab 20000) 13 e98.as [.lf] .lf 0=some (e98.v,[.lf],.lf,e98.n):=by kernel_rfl
theorem k110:thawG (runQ O4 tab 20000) 13 e110.as [.lf] .lf 0=some (e110.v,[.lf],.lf,e110.n):=by kernel_rfl
theorem k114:thawG (runQ O3 tab 20000) 47 e114.as [.lf] .lf 0=some (e114.v,[.lf],.lf,e114.n):=by kernel_rfl
theorem k189:thawG (runQ O0 tab 20000) 18 e189.as [.lf] .lf 0=some (e189.v,[.lf],.lf,e189.n):=by kernel_rfl
theorem k192:thawG (runQ O0 tab 20000) 18 e192.as [.lf] .lf 0=some (e192.v,[.lf],.lf,e192.n):=by kernel_rfl
end
end Go.Proofs.YtnhbhdopamdgpaaGreatDoor
namespace Go.Proofs.YtnhbhdopamdgpaaGreatDoor
open Go Go.Eng
set_option maxRecDepth 100000
noncomputable section
theorem k33:thawG (runQ O0 tab 20000) 153 e33.as [.lf] .lf 0=some (e33.v,[.lf],.lf,e33.n):=by kernel_rfl
theorem k60:thawG (runQ O3 tab 20000) 47 e60.as [.lf] .lf 0=some (e60.v,[.lf],.lf,e60.n):=by kernel_rfl
theorem k68:thawG (runQ O4 tab 20000) 13 e68.as [.lf] .lf 0=some (e68.v,[.lf],.lf,e68.n):=by kernel_rfl
theorem k92:thawG (runQ O3 tab 20000) 47 e92.as [.lf] .lf 0=some (e92.v,[.lf],.lf,e92.n):=by kernel_rfl
theorem k122:thawG (runQ O4 tab 20000) 13 e122.as [.lf] .lf 0=some (e122.v,[.lf],.lf,e122.n):=by kernel_rfl
theorem k141:thawG (runQ O0 tab 20000) 11 e141.as [.lf] .lf 0=some (e141.v,[.lf],.lf,e141.n):=by kernel_rfl
end
end Go.Proofs.YtnhbhdopamdgpaaGreatDoor
namespace Go.Proofs.YtnhbhdopamdgpaaGreatDoor
open Go Go.Eng
set_option maxRecDepth 100000
noncomputable section
theorem k20:thawG (runQ O0 tab 20000) 153 e20.as [.lf] .lf 0=some (e20.v,[.lf],.lf,e20.n):=by kernel_rfl
theorem k42:thawG (runQ O3 tab 20000) 47 e42.as [.lf] .lf 0=some (e42.v,[.lf],.lf,e42.n):=by kernel_rfl
theorem k61:thawG (runQ O3 tab 20000) 47 e61.as [.lf] .lf 0=some (e61.v,[.lf],.lf,e61.n):=by kernel_rfl
theorem k91:thawG (runQ O3 tab 20000) 47 e91.as [.lf] .lf 0=some (e91.v,[.lf],.lf,e91.n):=by kernel_rfl
theorem k94:thawG (runQ O3 tab 20000) 47 e94.as [.lf] .lf 0=some (e94.v,[.lf],.lf,e94.n):=by kernel_rfl
theorem k103:thawG (runQ O3 tab 20000) 47 e103.as [.lf] .lf 0=some (e103.v,[.lf],.lf,e103.n):=by kernel_rfl
end
end Go.Proofs.YtnhbhdopamdgpaaGreatDoor
namespace Go.Proofs.YtnhbhdopamdgpaaGreatDoor
open Go Go.Eng
set_option maxRecDepth 100000
noncomputable section
theorem k104:thawG (runQ O3 tab 20000) 47 e104.as [.lf] .lf 0=some (e104.v,[.lf],.lf,e104.n):=by kernel_rfl
theorem k115:thawG (runQ O3 tab 20000) 47 e115.as [.lf] .lf 0=some (e115.v,[.lf],.lf,e115.n):=by kernel_rfl
theorem k116:thawG (runQ O3 tab 20000) 47 e116.as [.lf] .lf 0=some (e116.v,[.lf],.lf,e116.n):=by kernel_rfl
theorem k128:thawG (runQ O3 tab 20000) 47 e128.as [.lf] .lf 0=some (e128.v,[.lf],.lf,e128.n):=by kernel_rfl
theorem k129:thawG (runQ O3 tab 20000) 47 e129.as [.lf] .lf 0=some (e129.v,[.lf],.lf,e129.n):=by kernel_rfl
theorem k193:thawG (runQ O0 tab 20000) 18 e193.as [.lf] .lf 0=some (e193.v,[.lf],.lf,e193.n):=by kernel_rfl
end
end Go.Proofs.YtnhbhdopamdgpaaGreatDoor
