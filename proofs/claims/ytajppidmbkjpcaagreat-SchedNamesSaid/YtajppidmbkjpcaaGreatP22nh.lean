/- A part of the proof: P22ne, P22nf, P22ng, P22nh. -/
import Derived.Test.YtajppidmbkjpcaaGreatD22n
namespace Go.Proofs.YtajppidmbkjpcaaGreat
open Go Go.Eng
set_option maxRecDepth 100000
noncomputable section
theorem k177:thawG (runQ O3 tab 20000) 44 e177.as [.lf] .lf 0=some (e177.v,[.lf],.lf,e177.n):=by kernel_rfl
end
end Go.Proofs.YtajppidmbkjpcaaGreat
namespace Go.Proofs.YtajppidmbkjpcaaGreat
open Go Go.Eng
set_option maxRecDepth 100000
noncomputable section
theorem k135:thawG (runQ O3 tab 20000) 44 e135.as [.lf] .lf 0=some (e135.v,[.lf],.lf,e135.n):=by kernel_rfl
end
end Go.Proofs.YtajppidmbkjpcaaGreat
namespace Go.Proofs.YtajppidmbkjpcaaGreat
open Go Go.Eng
set_option maxRecDepth 100000
noncomputable section
theorem k14:thawG (runQ O0 tab 20000) 126 e14.as [.lf] .lf 0=some (e14.v,[.lf],.lf,e14.n):=by kernel_rfl
theorem k158:thawG (runQ O1 tab 20000) 74 e158.as [.lf] .lf 0=some (e158.v,[.lf],.lf,e158.n):=by kernel_rfl
theorem k175:thawG (runQ O2 tab 20000) 89 e175.as [.lf] .lf 0=some (e175.v,[.lf],.lf,e175.n):=by kernel_rfl
end
end Go.Proofs.YtajppidmbkjpcaaGreat
namespace Go.Proofs.YtajppidmbkjpcaaGreat
open Go Go.Eng
set_option maxRecDepth 100000
noncomputable section
theorem k16:thawG (runQ O0 tab 20000) 126 e16.as [.lf] .lf 0=some (e16.v,[.lf],.lf,e16.n):=by kernel_rfl
theorem k18:thawG (runQ O1 tab 20000) 74 e18.as [.lf] .lf 0=some (e18.v,[.lf],.lf,e18.n):=by kernel_rfl
theorem k126:thawG (runQ O2 tab 20000) 89 e126.as [.lf] .lf 0=some (e126.v,[.lf],.lf,e126.n):=by kernel_rfl
theorem k137:thawG (runQ O4 tab 20000) 18 e137.as [.lf] .lf 0=some (e137.v,[.lf],.lf,e137.n):=by kernel_rfl
end
end Go.Proofs.YtajppidmbkjpcaaGreat
