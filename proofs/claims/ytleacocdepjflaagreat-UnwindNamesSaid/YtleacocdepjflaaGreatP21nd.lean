/- A part of the proof: P21na, P21nb, P21nc, P21nd. -/
import Derived.Test.YtleacocdepjflaaGreatD21n
namespace Go.Proofs.YtleacocdepjflaaGreat
open Go Go.Eng
set_option maxRecDepth 100000
noncomputable section
theorem k27:thawG (runQ O2 tab 20000) 37 e27.as [.lf] .lf 0=some (e27.v,[.lf],.lf,e27.n):=by kernel_rfl
end
end Go.Proofs.YtleacocdepjflaaGreat
namespace Go.Proofs.YtleacocdepjflaaGreat
open Go Go.Eng
set_option maxRecDepth 100000
noncomputable section
theorem k28:thawG (runQ O3 tab 20000) 26 e28.as [.lf] .lf 0=some (e28.v,[.lf],.lf,e28.n):=by kernel_rfl
end
end Go.Proofs.YtleacocdepjflaaGreat
namespace Go.Proofs.YtleacocdepjflaaGreat
open Go Go.Eng
set_option maxRecDepth 100000
noncomputable section
theorem k84:thawG (runQ O3 tab 20000) 101 e84.as [.lf] .lf 0=some (e84.v,[.lf],.lf,e84.n):=by kernel_rfl
end
end Go.Proofs.YtleacocdepjflaaGreat
namespace Go.Proofs.YtleacocdepjflaaGreat
open Go Go.Eng
set_option maxRecDepth 100000
noncomputable section
theorem k18:thawG (runQ O1 tab 20000) 55 e18.as [.lf] .lf 0=some (e18.v,[.lf],.lf,e18.n):=by kernel_rfl
theorem k77:thawG (runQ O1 tab 20000) 278 e77.as [.lf] .lf 0=some (e77.v,[.lf],.lf,e77.n):=by kernel_rfl
theorem k177:thawG (runQ O2 tab 20000) 37 e177.as [.lf] .lf 0=some (e177.v,[.lf],.lf,e177.n):=by kernel_rfl
theorem k203:thawG (runQ O5 tab 20000) 8 e203.as [.lf] .lf 0=some (e203.v,[.lf],.lf,e203.n):=by kernel_rfl
theorem k229:thawG (runQ O1 tab 20000) 278 e229.as [.lf] .lf 0=some (e229.v,[.lf],.lf,e229.n):=by kernel_rfl
end
end Go.Proofs.YtleacocdepjflaaGreat
