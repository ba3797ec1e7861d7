/- A part of the proof: P12ne, P12nf, P12ng, P12nh. -/
import Derived.Test.YtnhbhdopamdgpaaGreatDoorD12n
namespace Go.Proofs.YtnhbhdopamdgpaaGreatDoor
open Go Go.Eng
set_option maxRecDepth 100000
noncomputable section
theorem k57:thawG (runQ O4 tab 20000) 13 e57.as [.lf] .lf 0=some (e57.v,[.lf],.lf,e57.n):=by kernel_rfl
theorem k60:thawG (runQ O0 tab 20000) 9 e60.as [.lf] .lf 0=some (e60.v,[.lf],.lf,e60.n):=by kernel_rfl
theorem k65:thawG (runQ O2 tab 20000) 57 e65.as [.lf] .lf 0=some (e65.v,[.lf],.lf,e65.n):=by kernel_rfl
theorem k159:thawG (runQ O2 tab 20000) 57 e159.as [.lf] .lf 0=some (e159.v,[.lf],.lf,e159.n):=by kernel_rfl
end
end Go.Proofs.YtnhbhdopamdgpaaGreatDoor
namespace Go.Proofs.YtnhbhdopamdgpaaGreatDoor
open Go Go.Eng
set_option maxRecDepth 100000
noncomputable section
theorem k90:thawG (runQ O3 tab 20000) 47 e90.as [.lf] .lf 0=some (e90.v,[.lf],.lf,e90.n):=by kernel_rfl
theorem k129:thawG (runQ O4 tab 20000) 9 e129.as [.lf] .lf 0=some (e129.v,[.lf],.lf,e129.n):=by kernel_rfl
theorem k170:thawG (runQ O2 tab 20000) 57 e170.as [.lf] .lf 0=some (e170.v,[.lf],.lf,e170.n):=by kernel_rfl
theorem k171:thawG (runQ O1 tab 20000) 133 e171.as [.lf] .lf 0=some (e171.v,[.lf],.lf,e171.n):=by kernel_rfl
end
end Go.Proofs.YtnhbhdopamdgpaaGreatDoor
namespace Go.Proofs.YtnhbhdopamdgpaaGreatDoor
open Go Go.Eng
set_option maxRecDepth 100000
noncomputable section
theorem k169:thawG (runQ O4 tab 20000) 13 e169.as [.lf] .lf 0=some (e169.v,[.lf],.lf,e169.n):=by kernel_rfl
theorem k182:thawG (runQ O2 tab 20000) 57 e182.as [.lf] .lf 0=some (e182.v,[.lf],.lf,e182.n):=by kernel_rfl
theorem k194:thawG (runQ O1 tab 20000) 133 e194.as [.lf] .lf 0=some (e194.v,[.lf],.lf,e194.n):=by kernel_rfl
theorem k207:thawG (runQ O2 tab 20000) 57 e207.as [.lf] .lf 0=some (e207.v,[.lf],.lf,e207.n):=by kernel_rfl
end
end Go.Proofs.YtnhbhdopamdgpaaGreatDoor
namespace Go.Proofs.YtnhbhdopamdgpaaGreatDoor
open Go Go.Eng
set_option maxRecDepth 100000
noncomputable section
theorem k3:thawG (runQ O1 tab 20000) 95 e3.as [.lf] .lf 0=some (e3.v,[.lf],.lf,e3.n):=by kernel_rfl
theorem k45:thawG (runQ O1 tab 20000) 133 e45.as [.lf] .lf 0=some (e45.v,[.lf],.lf,e45.n):=by kernel_rfl
theorem k163:thawG (runQ O3 tab 20000) 47 e163.as [.lf] .lf 0=some (e163.v,[.lf],.lf,e163.n):=by kernel_rfl
theorem k180:thawG (runQ O4 tab 20000) 13 e180.as [.lf] .lf 0=some (e180.v,[.lf],.lf,e180.n):=by kernel_rfl
theorem k181:thawG (runQ O4 tab 20000) 13 e181.as [.lf] .lf 0=some (e181.v,[.lf],.lf,e181.n):=by kernel_rfl
theorem k203:thawG (runQ O4 tab 20000) 13 e203.as [.lf] .lf 0=some (e203.v,[.lf],.lf,e203.n):=by kernel_rfl
theorem k215:thawG (runQ O5 tab 20000) 12 e215.as [.lf] .lf 0=some (e215.v,[.lf],.lf,e215.n):=by kernel_rfl
end
end Go.Proofs.YtnhbhdopamdgpaaGreatDoor
