/- A part of the proof: P22na, P22nb, P22nc, P22nd. -/
import Derived.Test.YtajppidmbkjpcaaGreatD22n
namespace Go.Proofs.YtajppidmbkjpcaaGreat
open Go Go.Eng
set_option maxRecDepth 100000
noncomputable section
theorem k167:thawG (runQ O2 tab 20000) 59 e167.as [.lf] .lf 0=some (e167.v,[.lf],.lf,e167.n):=by kernel_rfl
end
end Go.Proofs.YtajppidmbkjpcaaGreat
namespace Go.Proofs.YtajppidmbkjpcaaGreat
open Go Go.Eng
set_option maxRecDepth 100000
noncomputable section
theorem k27:thawG (runQ O2 tab 20000) 59 e27.as [.lf] .lf 0=some (e27.v,[.lf],.lf,e27.n):=by kernel_rfl
end
end Go.Proofs.YtajppidmbkjpcaaGreat
namespace Go.Proofs.YtajppidmbkjpcaaGreat
open Go Go.Eng
set_option maxRecDepth 100000
noncomputable section
theorem k168:thawG (runQ O3 tab 20000) 41 e168.as [.lf] .lf 0=some (e168.v,[.lf],.lf,e168.n):=by kernel_rfl
end
end Go.Proofs.YtajppidmbkjpcaaGreat
namespace Go.Proofs.YtajppidmbkjpcaaGreat
open Go Go.Eng
set_option maxRecDepth 100000
noncomputable section
theorem k28:thawG (runQ O3 tab 20000) 41 e28.as [.lf] .lf 0=some (e28.v,[.lf],.lf,e28.n):=by kernel_rfl
end
end Go.Proofs.YtajppidmbkjpcaaGreat
